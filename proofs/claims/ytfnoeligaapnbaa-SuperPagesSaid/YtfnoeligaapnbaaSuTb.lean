/-
  SuperTorn: the walk.
-/
import Derived.Test.YtfnoeligaapnbaaSuTa
namespace Go.Proofs.Ytfnoeligaapnbaa
open Go.RowKit Go.Shelf
set_option linter.unusedVariables false
set_option linter.unusedSimpArgs false
attribute [local go_sem ↓] Go.wp_at_zero Go.wp_at_succ

set_option maxRecDepth 100000 in
theorem torn_bad (s t : Sup) (w : World) (hg : rightS s = false ∨ rightS t = false ∨ s.gen = t.gen) :
    Calls Try.prog 9 #[sval s, sval t] w fun e w' => e = .returned (.bool true) ∧ Below w.heap.size w w' := by
  have HG := Lib.hid hg
  clear hg
  go_enter Try.func9, Try.ntmps9
  go_upto_region 0 with fail
  refine wp_region_lit ?_
  refine wl_box (.tmp 0) rfl (by rfl) s rfl fun W1 hb1 hm1 hs1 => ?_
  refine wl_box (.tmp 1) rfl (by rfl) t rfl fun W2 hb2 hm2 hs2 => ?_
  have B2 := Lib.hid (hb1.trans (hb2.mono hb1.size))
  have S2 := Lib.hid (hm1.keep hb2)
  have T2 := Lib.hid hm2
  clear hb1 hm1 hs1 hb2 hm2 hs2
  generalize W1.heap.size = q1 at *
  clear W1
  go_wp2_with (refine wl_load (.tmp 2) rfl (by rfl) w.heap.size s rfl S2.out ?_)
  refine (encode_u s _).mono ?_
  rintro e W3 ⟨A, m, d, rfl, _, _, hb⟩
  have B3 := Lib.hid (B2.out.trans (hb.mono B2.out.size))
  have S3 := Lib.hid (S2.out.keep hb)
  have T3 := Lib.hid (T2.out.keep hb)
  clear hb B2 S2 T2
  go_wp2_with (refine wl_load (.tmp 3) rfl (by rfl) q1 t rfl T3.out ?_)
  refine (encode_u t _).mono ?_
  rintro e W4 ⟨A2, m2, d2, rfl, _, _, hb⟩
  have B4 := Lib.hid (B3.out.trans (hb.mono B3.out.size))
  have S4 := Lib.hid (S3.out.keep hb)
  have T4 := Lib.hid (T3.out.keep hb)
  clear hb B3 S3 T3
  cases hs : rightS s
  · rw [(encL_bad hs).2]
    clear hs
    go_wp2_with fail
    refine (awake_any _).mono ?_
    rintro e W5 ⟨rfl, hb⟩
    have B5 := Lib.hid (B4.out.trans (hb.mono B4.out.size))
    clear hb
    go_wp2_with fail
    go_ret
    exact ⟨rfl, B5.out⟩
  cases ht : rightS t
  · rw [(encL_good hs).2, (encL_bad ht).2]
    clear hs ht
    go_wp2_with fail
    refine (awake_any _).mono ?_
    rintro e W5 ⟨rfl, hb⟩
    have B5 := Lib.hid (B4.out.trans (hb.mono B4.out.size))
    clear hb
    go_wp2_with fail
    go_ret
    exact ⟨rfl, B5.out⟩
  have e : s.gen = t.gen := by
    rcases HG.out with h | h | h
    · rw [hs] at h; cases h
    · rw [ht] at h; cases h
    · exact h
  rw [(encL_good hs).2, (encL_good ht).2]
  obtain ⟨g0, _⟩ := S4.out.gets 0 _ (scells_gen s)
  obtain ⟨g1, _⟩ := T4.out.gets 0 _ (scells_gen t)
  rw [e] at g0
  clear hs ht e
  go_wp2_with fail
  refine (awake_any _).mono ?_
  rintro e W5 ⟨rfl, hb⟩
  have B5 := Lib.hid (B4.out.trans (hb.mono B4.out.size))
  clear hb
  go_wp2_with fail
  go_ret
  exact ⟨rfl, B5.out⟩

set_option maxHeartbeats 8000000 in
set_option maxRecDepth 100000 in
theorem torn_good (s t : Sup) (w : World) (hs : rightS s = true) (ht : rightS t = true) (hne : s.gen ≠ t.gen) :
    Calls Try.prog 9 #[sval s, sval t] w fun e w' => e = .returned (.bool true) ∧ Below w.heap.size w w' := by
  have HS := Lib.hid hs
  have HT := Lib.hid ht
  have HN := Lib.hid hne
  have hgz : ((s.gen.toNat : Int) == (t.gen.toNat : Int)) = false := by rw [beq_eq_false_iff_ne]; intro h; exact hne (UInt64.toNat_inj.1 (by omega))
  clear hs ht hne
  go_enter Try.func9, Try.ntmps9
  go_upto_region 0 with fail
  refine wp_region_lit ?_
  refine wl_box (.tmp 0) rfl (by rfl) s rfl fun W1 hb1 hm1 hs1 => ?_
  refine wl_box (.tmp 1) rfl (by rfl) t rfl fun W2 hb2 hm2 hs2 => ?_
  have B2 := Lib.hid (hb1.trans (hb2.mono hb1.size))
  have S2 := Lib.hid (hm1.keep hb2)
  have T2 := Lib.hid hm2
  clear hb1 hm1 hs1 hb2 hm2 hs2
  generalize W1.heap.size = q1 at *
  clear W1
  go_wp2_with (refine wl_load (.tmp 2) rfl (by rfl) w.heap.size s rfl S2.out ?_)
  refine (encode_good s _ HS.out).mono ?_
  rintro e W3 ⟨v, rfl, hF⟩
  obtain ⟨ga, ca, rfl, hga, hca, hcma, hMa, hb⟩ := hF.open_ (spage_length s)
  have B3 := Lib.hid (B2.out.trans (hb.mono B2.out.size))
  have S3 := Lib.hid (S2.out.keep hb)
  have T3 := Lib.hid (T2.out.keep hb)
  have P3 := Lib.hid hMa
  clear hb hF hMa hga B2 S2 T2
  go_wp2_with (refine wl_load (.tmp 3) rfl (by rfl) q1 t rfl T3.out ?_)
  refine (encode_good t _ HT.out).mono ?_
  rintro e W4 ⟨v, rfl, hF⟩
  obtain ⟨gb, cb, rfl, hgb, hcb, hcmb, hMb, hb⟩ := hF.open_ (spage_length t)
  have B4 := Lib.hid (B3.out.trans (hb.mono B3.out.size))
  have S4 := Lib.hid (S3.out.keep hb)
  have T4 := Lib.hid (T3.out.keep hb)
  have P4 := Lib.hid (P3.out.keep hb)
  have Q4 := Lib.hid hMb
  clear hb hF hMb hgb B3 S3 T3 P3
  obtain ⟨g0, gf0⟩ := S4.out.gets 0 _ (scells_gen s)
  obtain ⟨g1, gf1⟩ := T4.out.gets 0 _ (scells_gen t)
  go_wp2_with fail
  clear g0 gf0 g1 gf1 hgz
  go_loopw [9] (fun i wr => ∃ k : Nat, k ≤ 129 ∧ i = .int .i64 (k : Int) ∧ Below W4.heap.size W4 wr) (fun i _ => 129 - (intOf i).toNat)
  case atStart => exact ⟨0, Nat.zero_le _, rfl, Below.refl _ _⟩
  case round =>
    obtain ⟨k, hk, rfl, hb⟩ := hrel
    have BR := Lib.hid (B4.out.trans (hb.mono B4.out.size))
    have SR := Lib.hid (S4.out.keep hb)
    have TR := Lib.hid (T4.out.keep hb)
    have PR := Lib.hid (P4.out.keep hb)
    have QR := Lib.hid (Q4.out.keep hb)
    have HB := Lib.hid hb
    clear hb
    by_cases hlt : k ≤ 128
    · have k0 : (0 : Int) ≤ (k : Int) := by omega
      have k1 : (k : Int) ≤ 128 := by omega
      have k2 : (k : Int) ≤ (cb : Int) := by omega
      have kw : IntKind.i64.wrap ((k : Int) + 1) = (k : Int) + 1 := IntWalk.i64_in _ (by omega)
      obtain ⟨off, hoff⟩ : ∃ off, off = if ca = k then 0 else k := ⟨_, rfl⟩
      have HOFF := Lib.hid hoff
      clear hoff
      go_upto_region 10 with fail
      refine wp_region_held_drew (S := fun _ => True) (by kernel_rfl) trivial (fun hHeld => ?_)
      have hbd : Below wr.heap.size wr wr.drew := (Below.refl _ wr).drew
      have hsub : Reads8 wr.drew (some ⟨gb, 0, none⟩) k ((spage t).take k) := by have := (QR.out.drew.sub 0 k (by omega)).reads; simpa using this
      refine wpAnyH_take (i := 0) (v := .slice (some ⟨gb, 0, none⟩) 128 cb) rfl (by kernel_rfl) (by kernel_rfl) (by kernel_rfl) (fun _ _ _ h => h) (Or.inl ⟨by kernel_rfl, fun w _ => by go_simp⟩) hHeld ?_
      try simp only [Act.put, List.getElem_toArray, List.getElem_cons_succ, List.getElem_cons_zero, List.setIfInBounds_toArray, List.set_cons_zero, List.set_cons_succ]
      refine wpAnyH_take (i := 1) (v := .int .i64 (k : Int)) rfl (by kernel_rfl) (by kernel_rfl) (by kernel_rfl) (fun _ _ _ h => h) (Or.inl ⟨by kernel_rfl, fun w _ => by go_simp⟩) hHeld ?_
      try simp only [Act.put, List.getElem_toArray, List.getElem_cons_succ, List.getElem_cons_zero, List.setIfInBounds_toArray, List.set_cons_zero, List.set_cons_succ]
      refine wpAnyH_take (i := 2) (v := .slice (some ⟨gb, 0, none⟩) k cb) rfl (by kernel_rfl) (by kernel_rfl) (by kernel_rfl) (fun _ _ _ h => h) (Or.inl ⟨by kernel_rfl, fun w _ => by go_simp⟩) hHeld ?_
      try simp only [Act.put, List.getElem_toArray, List.getElem_cons_succ, List.getElem_cons_zero, List.setIfInBounds_toArray, List.set_cons_zero, List.set_cons_succ]
      refine wpAnyH_take (i := 4) (v := .slice (some ⟨ga, 0, none⟩) 128 ca) rfl (by kernel_rfl) (by kernel_rfl) (by kernel_rfl) (fun _ _ _ h => h) (Or.inl ⟨by kernel_rfl, fun w _ => by go_simp⟩) hHeld ?_
      try simp only [Act.put, List.getElem_toArray, List.getElem_cons_succ, List.getElem_cons_zero, List.setIfInBounds_toArray, List.set_cons_zero, List.set_cons_succ]
      refine wpAnyH_take (i := 5) (v := .int .i64 (k : Int)) rfl (by kernel_rfl) (by kernel_rfl) (by kernel_rfl) (fun _ _ _ h => h) (Or.inl ⟨by kernel_rfl, fun w _ => by go_simp⟩) hHeld ?_
      try simp only [Act.put, List.getElem_toArray, List.getElem_cons_succ, List.getElem_cons_zero, List.setIfInBounds_toArray, List.set_cons_zero, List.set_cons_succ]
      refine wpAnyH_take (i := 6) (v := .slice (some ⟨ga, off, none⟩) (128 - k) (ca - k)) rfl (by kernel_rfl) (by kernel_rfl) (by kernel_rfl) (fun _ _ _ h => h) (Or.inl ⟨by kernel_rfl, fun w _ => by go_simp; rw [HOFF.out]; split <;> rfl⟩) hHeld ?_
      try simp only [Act.put, List.getElem_toArray, List.getElem_cons_succ, List.getElem_cons_zero, List.setIfInBounds_toArray, List.set_cons_zero, List.set_cons_succ]
      refine wpAnyH_ready (rs := [3]) (by kernel_rfl) (by simp) ?_
      refine AllReadyH.cons rfl (fun K hK => ?_) AllReadyH.nil
      go_simp
      go_at_call 11
      refine (again_cap _ k cb _ _ hsub (by simp only [maxLen]; omega)).mono ?_
      rintro e Wa ⟨d, rfl, hkd, hdm, hMd, hbw⟩
      refine hK.out _ _ trivial (fun hHeld => ?_)
      try simp only [Act.put, List.getElem_toArray, List.getElem_cons_succ, List.getElem_cons_zero, List.setIfInBounds_toArray, List.set_cons_zero, List.set_cons_succ]
      have hba := hbd.trans (hbw.mono (Nat.le_refl _))
      have PA := PR.out.keep hba
      have hsp := (PA.sub k (128 - k) (by omega))
      have hgn : wr.heap.size ≤ wr.drew.heap.size := hbd.size
      refine wpAnyH_ready (rs := [7]) (by kernel_rfl) (by simp) ?_
      refine AllReadyH.cons rfl (fun K hK => ?_) AllReadyH.nil
      rw [if_pos (show Region.wanted _ _ = true by kernel_rfl)]
      refine wp_append_open (.tmp 52) (.tmp 55) 28 rfl 5 Try.underlying28 (by kernel_rfl) wr.drew.heap.size k d ((spage t).take k) (List.replicate (d - k) 0) rfl (by rw [List.length_take, spage_length]; omega) hMd hdm ga off (128 - k) (ca - k) ((spage s).drop k) rfl (by rw [List.length_drop, spage_length]) ?_ (by omega) ?_
      · intro j hj
        have hj' : j < 128 - k := by rw [List.length_drop, spage_length] at hj; exact hj
        rw [HOFF.out, if_neg (show ¬ ca = k by omega)]
        have := PA.cell (k + j) (by rw [spage_length]; omega)
        rw [Nat.zero_add] at this
        rw [this, List.getElem_drop]
      intro g' k' Wb hg' hk' hkm hMt hoth hsz ho1 ho2 ho3
      have hk128 : k + (128 - k) = 128 := by omega
      rw [hk128] at hMt hk' ⊢
      have hbb : Below wr.heap.size wr Wb := ⟨ho1.trans hba.os, ho2.trans hba.tape, ho3.trans hba.output, Nat.le_trans hba.size hsz, fun j hj => (hoth j (Nat.lt_of_lt_of_le hj hba.size) (by omega)).trans (hba.block j hj)⟩
      have htl : (spage t).take k ++ (spage s).drop k = tornL (spage s) (spage t) k := rfl
      rw [htl] at hMt
      refine hK.out _ _ trivial (fun hHeld => ?_)
      try simp only [Act.put, List.getElem_toArray, List.getElem_cons_succ, List.getElem_cons_zero, List.setIfInBounds_toArray, List.set_cons_zero, List.set_cons_succ]
      refine wpAnyH_take (i := 8) (v := .slice (some ⟨g', 0, none⟩) 128 k') rfl (by kernel_rfl) (by kernel_rfl) (by kernel_rfl) (fun _ _ _ h => h) (Or.inl ⟨by kernel_rfl, fun w _ => by go_simp⟩) hHeld ?_
      try simp only [Act.put, List.getElem_toArray, List.getElem_cons_succ, List.getElem_cons_zero, List.setIfInBounds_toArray, List.set_cons_zero, List.set_cons_succ]
      refine wpAnyH_done (by kernel_rfl) ?_ _
      have BB := Lib.hid (HB.out.trans (hbb.mono HB.out.size))
      have MB := Lib.hid hMt
      have HK' := Lib.hid hk'
      clear hoth hsz ho1 ho2 ho3 hg' hMd hba PA hsp hbw hsub hbd hHeld hMt htl hk128 hgn hkd hdm hkm hk'
      go_wp2_with fail
      refine (decode_any _ 128 k' _ _ MB.out.reads (by simp only [maxLen]; omega) HK'.out).mono ?_
      rintro e X ⟨rfl, hbx⟩
      go_wp2_with (refine wl_new 11 (.tmp 60) rfl rfl rfl (by rfl) (decS (tornL (spage s) (spage t) k)) rfl rfl (by rfl) ?_)
      intro Y hbw hmw hsw
      have hb := hbx.trans (hbw.mono hbx.size)
      have BY := Lib.hid (BB.out.trans (hb.mono BB.out.size))
      have MY := Lib.hid (MB.out.keep hb)
      have SY := Lib.hid (S4.out.keep BY.out)
      have TY := Lib.hid (T4.out.keep BY.out)
      have PY := Lib.hid (P4.out.keep BY.out)
      have QY := Lib.hid (Q4.out.keep BY.out)
      have NY := Lib.hid hmw
      obtain ⟨y11, hy⟩ : ∃ y, y = X.heap.size := ⟨_, rfl⟩
      rw [← hy] at NY ⊢
      clear hb hbx hbw hmw hsw hy hbb X BB MB BR SR TR PR QR HB
      go_wp2_with fail
      refine (equal_any _ _ 128 128 k' cb _ _ _ MY.out.reads QY.out.reads).mono ?_
      rintro e w' ⟨rfl, rfl⟩
      by_cases h1 : tornL (spage s) (spage t) k = spage t
      · rw [h1] at NY MY ⊢
        rw [(decS_page HT.out).1] at NY
        rw [(decS_page HT.out).2, same_self]
        clear h1
        go_wp2_with (first | ((with_reducible refine wl_load (.tmp 11) ?_ ?_ y11 (t) ?_ NY.out ?_); rfl; rfl; rfl) | ((with_reducible refine wl_load (.tmp 3) ?_ ?_ q1 (t) ?_ TY.out ?_); rfl; rfl; rfl) | ((with_reducible refine wl_nsame (.tmp 69) (.tmp 70) 27 ?_ ?_ (t) ?_ ?_ ?_); rfl; rfl; rfl; rfl))
        go_roundw
        case rel => exact ⟨k + 1, by omega, by go_num, BY.out⟩
        case measure => simp [intOf]; omega
      · rw [show same8 (tornL (spage s) (spage t) k) (spage t) = false by rw [Bool.eq_false_iff]; intro h; exact h1 (same8_iff.1 h)]
        go_wp2_with fail
        refine (equal_any _ _ 128 128 k' ca _ _ _ MY.out.reads PY.out.reads).mono ?_
        rintro e w' ⟨rfl, rfl⟩
        by_cases h2 : tornL (spage s) (spage t) k = spage s
        · rw [h2] at NY MY ⊢
          rw [(decS_page HS.out).1] at NY
          rw [(decS_page HS.out).2, same_self]
          clear h1 h2
          go_wp2_with (first | ((with_reducible refine wl_load (.tmp 11) ?_ ?_ y11 (s) ?_ NY.out ?_); rfl; rfl; rfl) | ((with_reducible refine wl_load (.tmp 2) ?_ ?_ w.heap.size (s) ?_ SY.out ?_); rfl; rfl; rfl) | ((with_reducible refine wl_nsame (.tmp 80) (.tmp 81) 27 ?_ ?_ (s) ?_ ?_ ?_); rfl; rfl; rfl; rfl))
          go_roundw
          case rel => exact ⟨k + 1, by omega, by go_num, BY.out⟩
          case measure => simp [intOf]; omega
        · have hno := decS_no (torn_not s t HN.out k hlt h1 h2)
          rw [hno.1] at NY
          rw [hno.2, show same8 (tornL (spage s) (spage t) k) (spage s) = false by rw [Bool.eq_false_iff]; intro h; exact h2 (same8_iff.1 h)]
          clear h1 h2 hno
          go_wp2_with (first | ((with_reducible refine wl_load (.tmp 11) ?_ ?_ y11 (noS) ?_ NY.out ?_); rfl; rfl; rfl) | ((with_reducible refine wl_build0 ?_ ?_ ?_); rfl; rfl) | ((with_reducible refine wl_nsame (.tmp 88) (.tmp 89) 27 ?_ ?_ (noS) ?_ ?_ ?_); rfl; rfl; rfl; rfl))
          go_roundw
          case rel => exact ⟨k + 1, by omega, by go_num, BY.out⟩
          case measure => simp [intOf]; omega
    · obtain rfl : k = 129 := by omega
      rw [show ((129 : Nat) : Int) = 129 from rfl]
      go_wp2_with fail
      refine (awake_any _).mono ?_
      rintro e Wz ⟨rfl, hbz⟩
      have BZ := Lib.hid (BR.out.trans (hbz.mono BR.out.size))
      clear hbz
      go_wp2_with fail
      go_ret
      exact ⟨rfl, BZ.out⟩

theorem lawTorn (s t : Sup) (w : World) : Calls Try.prog 9 #[sval s, sval t] w fun e w' => e = .returned (.bool true) ∧ Below w.heap.size w w' := by
  by_cases h1 : rightS s = true
  · by_cases h2 : rightS t = true
    · by_cases h3 : s.gen = t.gen
      · exact torn_bad s t w (.inr (.inr h3))
      · exact torn_good s t w h1 h2 h3
    · exact torn_bad s t w (.inr (.inl (by simpa using h2)))
  · exact torn_bad s t w (.inl (by simpa using h1))

end Go.Proofs.Ytfnoeligaapnbaa
