/-
  Carried, as a whole; do both disks tell the same: catchmentlow.EqualDisks.
-/
import Derived.Test.YtdnhlpddnbholaaDkZe
namespace Go.Proofs.Ytdnhlpddnbholaa
open Go.RowKit
set_option linter.unusedVariables false
set_option linter.unusedSimpArgs false
attribute [local go_sem ↓] Go.wp_at_zero Go.wp_at_succ

section
variable {F : Nat → Prop} {p q r : Nat} {D : Dk} {C : List (Nat × List UInt8)}
theorem carried_any (w : World) (h : Both F w p q r D D C) (x : UInt8) (a : Int) (ha1 : -9223372036854775808 ≤ a) (ha2 : a ≤ 9223372036854775807) (B : Option Addr) (n c : Nat) (bs : List UInt8) (hr : Reads8 w B n bs) (hB : ∀ a, B = some a → ¬ F a.block) (K : Option Addr) (kn kc : Nat) (keep : List Bool) (torn cut : Int) (hkn : keep.length = kn) (hkk : kn ≤ maxLen) (hcs : Cells w K (kcells keep)) (hap : keep = [] ∨ ∀ a, K = some a → ¬ F a.block) (hfew : C.length + D.waits.length < 900) :
    Calls Try.prog 23 #[.pointer (some ⟨p, 0, none⟩), .pointer (some ⟨r, 0, none⟩), .int .u8 (x.toNat : Int), .int .i64 a, .slice B n c, .agg #[.slice K kn kc, .int .i64 torn, .int .i64 cut]] w fun e w' => e = .returned (.bool true) ∧ Went F w w' p q r D C := by
  have h5 : x.toNat % 5 < 5 := Nat.mod_lt _ (by decide)
  by_cases h0 : x.toNat % 5 = 0
  · exact carried_write w h x h0 a B n c bs hr hB K kn kc torn cut hfew
  by_cases h1 : x.toNat % 5 = 1
  · exact carried_flush w h x h1 a B n c K kn kc torn cut hfew
  by_cases h2 : x.toNat % 5 = 2
  · exact carried_arm w h x h2 a ha1 ha2 B n c K kn kc torn cut
  by_cases h3 : x.toNat % 5 = 3
  · exact carried_crash w h x h3 a B n c K kn kc keep torn cut hkn hkk hcs hap hfew
  · exact carried_read w h x (by omega) a B n c K kn kc torn cut

set_option maxRecDepth 100000 in
set_option maxHeartbeats 4000000 in
theorem equaldisks_any (w : World) (hd : DiskAt F w p q D) {Ac Aw : Option Addr} {cc wc : Nat} (hr : RefIn F w r Ac cc Aw wc D C) :
    Calls Try.prog 25 #[.pointer (some ⟨p, 0, none⟩), .agg #[.int .i64 (D.blks.length : Int), .slice Ac C.length cc, .slice Aw D.waits.length wc, .int .i64 D.left, .bool D.down]] w fun e w' => e = .returned (.bool true) ∧ Below w.heap.size w w' := by
  have hb : Below w.heap.size w (w.alloc (.cells #[.int .i64 (D.blks.length : Int), .slice Ac C.length cc, .slice Aw D.waits.length wc, .int .i64 D.left, .bool D.down] 51)) := (Below.refl _ w).alloc (Nat.le_refl _) _
  have hm := MemC.new w [.int .i64 (D.blks.length : Int), .slice Ac C.length cc, .slice Aw D.waits.length wc, .int .i64 D.left, .bool D.down] 51
  have hk := hr.keep hb
  have hrf : RefIn (fun _ => True) (w.alloc (.cells #[.int .i64 (D.blks.length : Int), .slice Ac C.length cc, .slice Aw D.waits.length wc, .int .i64 D.left, .bool D.down] 51)) w.heap.size Ac cc Aw wc D C :=
    ⟨hk.ok, hm, hk.came, hk.waits, hk.ccap, hk.ccm, hk.wcap, hk.wcm, hk.cok, hk.agree, hk.few, trivial, fun a e => ⟨trivial, Nat.ne_of_lt (hr.fc a e).2.2, (hk.fc a e).2.2⟩, fun a e => ⟨trivial, Nat.ne_of_lt (hr.fw a e).2.2, (hk.fw a e).2.2⟩, fun _ _ => trivial⟩
  have H1 := Lib.hid (hd.keep hb)
  have R1 := Lib.hid hrf
  have B1 := Lib.hid hb
  have hN := hr.ok.many
  have hfew := hr.ok.few
  clear hd hr hm hk hrf hb
  go_enter Try.func25, Try.ntmps25
  go_upto_region 1 with fail
  obtain ⟨w1, hw1⟩ : ∃ W : World, W = w.alloc (.cells #[.int .i64 (D.blks.length : Int), .slice Ac C.length cc, .slice Aw D.waits.length wc, .int .i64 D.left, .bool D.down] 51) := ⟨_, rfl⟩
  rw [← hw1] at H1 R1 B1 ⊢
  obtain ⟨q3, hq3⟩ : ∃ y, y = w.heap.size := ⟨_, rfl⟩
  rw [← hq3] at R1 ⊢
  obtain ⟨W, hW⟩ : ∃ V : World, V = w1.drew := ⟨_, rfl⟩
  have bd : Below w1.heap.size w1 W := by rw [hW]; exact (Below.refl w1.heap.size w1).drew
  have HD := Lib.hid (H1.out.keep bd)
  have RD := Lib.hid (R1.out.keep bd)
  have BD := Lib.hid (B1.out.trans (bd.mono B1.out.size))
  have HS : Hid (∀ w', Below W.heap.size W w' → w'.cell? ⟨q3, 0, none⟩ = some (.int .i64 (D.blks.length : Int)) ∧ w'.cell? ⟨q3, 4, none⟩ = some (.bool D.down)) := Lib.hid fun w' hb => ⟨((RD.out.keep hb).head.get 0 _ rfl).1, ((RD.out.keep hb).head.get 4 _ rfl).1⟩
  refine wp_region_held_drew (S := fun w' => w'.cell? ⟨q3, 0, none⟩ = some (.int .i64 (D.blks.length : Int)) ∧ w'.cell? ⟨q3, 4, none⟩ = some (.bool D.down)) (by kernel_rfl) (by rw [← hW]; exact HS.out _ (Below.refl _ _)) (fun hHeld => ?_)
  rw [← hW] at hHeld ⊢
  clear hW hw1 hq3 bd H1 R1 B1
  refine wpAnyH_take (i := 0) (v := .pointer (some ⟨p, 0, none⟩)) rfl (by kernel_rfl) (by kernel_rfl) (by kernel_rfl) (fun _ _ _ h => h) (Or.inl ⟨by kernel_rfl, fun w _ => by go_simp⟩) hHeld ?_
  try simp only [Act.put, List.getElem_toArray, List.getElem_cons_succ, List.getElem_cons_zero, List.setIfInBounds_toArray, List.set_cons_zero, List.set_cons_succ]
  refine wpAnyH_take (i := 2) (v := .pointer (some ⟨q3, 4, none⟩)) rfl (by kernel_rfl) (by kernel_rfl) (by kernel_rfl) (fun _ _ _ h => h) (Or.inl ⟨by kernel_rfl, fun w _ => by go_simp⟩) hHeld ?_
  try simp only [Act.put, List.getElem_toArray, List.getElem_cons_succ, List.getElem_cons_zero, List.setIfInBounds_toArray, List.set_cons_zero, List.set_cons_succ]
  refine wpAnyH_take (i := 3) (v := .bool D.down) rfl (by kernel_rfl) (by kernel_rfl) (by kernel_rfl) (fun _ _ _ h => h) (Or.inl ⟨by kernel_rfl, fun w h => by have hc := h.2; go_simp⟩) hHeld ?_
  try simp only [Act.put, List.getElem_toArray, List.getElem_cons_succ, List.getElem_cons_zero, List.setIfInBounds_toArray, List.set_cons_zero, List.set_cons_succ]
  refine wpAnyH_ready (rs := [1]) (by kernel_rfl) (by simp) ?_
  refine AllReadyH.cons rfl (fun K hK => ?_) AllReadyH.nil
  go_simp
  go_at_call 13
  refine (down_any _ HD.out).mono ?_
  rintro e w' ⟨rfl, rfl⟩
  refine hK.out _ _ hHeld (fun hHeld => ?_)
  try simp only [Act.put, List.getElem_toArray, List.getElem_cons_succ, List.getElem_cons_zero, List.setIfInBounds_toArray, List.set_cons_zero, List.set_cons_succ]
  refine wpAnyH_take (i := 4) (v := .bool false) rfl (by kernel_rfl) (by kernel_rfl) (by kernel_rfl) (fun _ _ _ h => h) (Or.inl ⟨by kernel_rfl, fun w _ => by go_simp⟩) hHeld ?_
  try simp only [Act.put, List.getElem_toArray, List.getElem_cons_succ, List.getElem_cons_zero, List.setIfInBounds_toArray, List.set_cons_zero, List.set_cons_succ]
  refine wpAnyH_take (i := 5) (v := .bool false) rfl (by kernel_rfl) (by kernel_rfl) (by kernel_rfl) (fun _ _ _ h => h) (Or.inl ⟨by kernel_rfl, fun w _ => by go_simp⟩) hHeld ?_
  try simp only [Act.put, List.getElem_toArray, List.getElem_cons_succ, List.getElem_cons_zero, List.setIfInBounds_toArray, List.set_cons_zero, List.set_cons_succ]
  refine wpAnyH_take (i := 6) (v := .pointer (some ⟨p, 0, none⟩)) rfl (by kernel_rfl) (by kernel_rfl) (by kernel_rfl) (fun _ _ _ h => h) (Or.inl ⟨by kernel_rfl, fun w _ => by go_simp⟩) hHeld ?_
  try simp only [Act.put, List.getElem_toArray, List.getElem_cons_succ, List.getElem_cons_zero, List.setIfInBounds_toArray, List.set_cons_zero, List.set_cons_succ]
  refine wpAnyH_take (i := 8) (v := .pointer (some ⟨q3, 0, none⟩)) rfl (by kernel_rfl) (by kernel_rfl) (by kernel_rfl) (fun _ _ _ h => h) (Or.inl ⟨by kernel_rfl, fun w _ => by go_simp⟩) hHeld ?_
  try simp only [Act.put, List.getElem_toArray, List.getElem_cons_succ, List.getElem_cons_zero, List.setIfInBounds_toArray, List.set_cons_zero, List.set_cons_succ]
  refine wpAnyH_take (i := 9) (v := .int .i64 (D.blks.length : Int)) rfl (by kernel_rfl) (by kernel_rfl) (by kernel_rfl) (fun _ _ _ h => h) (Or.inl ⟨by kernel_rfl, fun w h => by have hc := h.1; go_simp⟩) hHeld ?_
  try simp only [Act.put, List.getElem_toArray, List.getElem_cons_succ, List.getElem_cons_zero, List.setIfInBounds_toArray, List.set_cons_zero, List.set_cons_succ]
  refine wpAnyH_ready (rs := [7]) (by kernel_rfl) (by simp) ?_
  refine AllReadyH.cons rfl (fun K hK => ?_) AllReadyH.nil
  go_simp
  go_at_call 29
  refine (len_any _ HD.out).mono ?_
  rintro e w' ⟨rfl, rfl⟩
  refine hK.out _ _ hHeld (fun hHeld => ?_)
  try simp only [Act.put, List.getElem_toArray, List.getElem_cons_succ, List.getElem_cons_zero, List.setIfInBounds_toArray, List.set_cons_zero, List.set_cons_succ]
  refine wpAnyH_take (i := 10) (v := .bool false) rfl (by kernel_rfl) (by kernel_rfl) (by kernel_rfl) (fun _ _ _ h => h) (Or.inl ⟨by kernel_rfl, fun w _ => by go_simp⟩) hHeld ?_
  try simp only [Act.put, List.getElem_toArray, List.getElem_cons_succ, List.getElem_cons_zero, List.setIfInBounds_toArray, List.set_cons_zero, List.set_cons_succ]
  refine wpAnyH_take (i := 11) (v := .bool false) rfl (by kernel_rfl) (by kernel_rfl) (by kernel_rfl) (fun _ _ _ h => h) (Or.inl ⟨by kernel_rfl, fun w _ => by go_simp⟩) hHeld ?_
  try simp only [Act.put, List.getElem_toArray, List.getElem_cons_succ, List.getElem_cons_zero, List.setIfInBounds_toArray, List.set_cons_zero, List.set_cons_succ]
  refine wpAnyH_take (i := 12) (v := .bool false) rfl (by kernel_rfl) (by kernel_rfl) (by kernel_rfl) (fun _ _ _ h => h) (Or.inl ⟨by kernel_rfl, fun w _ => by go_simp⟩) hHeld ?_
  try simp only [Act.put, List.getElem_toArray, List.getElem_cons_succ, List.getElem_cons_zero, List.setIfInBounds_toArray, List.set_cons_zero, List.set_cons_succ]
  refine wpAnyH_take (i := 13) (v := .pointer (some ⟨p, 0, none⟩)) rfl (by kernel_rfl) (by kernel_rfl) (by kernel_rfl) (fun _ _ _ h => h) (Or.inl ⟨by kernel_rfl, fun w _ => by go_simp⟩) hHeld ?_
  try simp only [Act.put, List.getElem_toArray, List.getElem_cons_succ, List.getElem_cons_zero, List.setIfInBounds_toArray, List.set_cons_zero, List.set_cons_succ]
  refine wpAnyH_ready (rs := [14]) (by kernel_rfl) (by simp) ?_
  refine AllReadyH.cons rfl (fun K hK => ?_) AllReadyH.nil
  go_simp
  go_at_call 12
  refine (cached_any _ HD.out).mono ?_
  rintro e w4 ⟨v1, rfl, hown1, hb4⟩
  obtain ⟨A1, c1, rfl, hI1, hn1, hm1⟩ := own_readsI hown1
  have I4 := Lib.hid hI1
  have D4 := Lib.hid (HD.out.keep hb4)
  have R4 := Lib.hid (RD.out.keep hb4)
  have B4 := Lib.hid (BD.out.trans (hb4.mono BD.out.size))
  have S4 := Lib.hid hb4
  clear hown1 hb4 hI1 HD RD BD
  refine hK.out _ _ (HS.out _ S4.out) (fun hHeld => ?_)
  try simp only [Act.put, List.getElem_toArray, List.getElem_cons_succ, List.getElem_cons_zero, List.setIfInBounds_toArray, List.set_cons_zero, List.set_cons_succ]
  refine wpAnyH_ready (rs := [15]) (by kernel_rfl) (by simp) ?_
  refine AllReadyH.cons rfl (fun K hK => ?_) AllReadyH.nil
  go_simp
  go_at_call 39
  refine (cachedref_any _ ⟨_, _, _, _, R4.out⟩).mono ?_
  rintro e w5 ⟨v2, rfl, hown2, hb5⟩
  obtain ⟨A2, c2, rfl, hI2, hn2, hm2⟩ := own_readsI hown2
  have I5 := Lib.hid (I4.out.keep hb5)
  have J5 := Lib.hid hI2
  have D5 := Lib.hid (D4.out.keep hb5)
  have R5 := Lib.hid (R4.out.keep hb5)
  have B5 := Lib.hid (B4.out.trans (hb5.mono B4.out.size))
  have S5 := Lib.hid (S4.out.trans (hb5.mono S4.out.size))
  clear hown2 hb5 hI2 D4 R4 B4 S4 I4
  refine hK.out _ _ (HS.out _ S5.out) (fun hHeld => ?_)
  try simp only [Act.put, List.getElem_toArray, List.getElem_cons_succ, List.getElem_cons_zero, List.setIfInBounds_toArray, List.set_cons_zero, List.set_cons_succ]
  refine wpAnyH_ready (rs := [16]) (by kernel_rfl) (by simp) ?_
  refine AllReadyH.cons rfl (fun K hK => ?_) AllReadyH.nil
  go_simp
  go_at_call 28
  refine (eqplaces_any _ _ _ _ _ _ (cachedL D) (cachedL D) _ I5.out J5.out (Nat.le_trans hn1 hm1) (Nat.le_trans hn2 hm2)).mono ?_
  rintro e w6 ⟨rfl, hqq⟩
  rw [show sameI (cachedL D) (cachedL D) = true from sameI_iff.2 rfl]
  have hb6 := hqq.below
  have D6 := Lib.hid (D5.out.keep hb6)
  have R6 := Lib.hid (R5.out.keep hb6)
  have B6 := Lib.hid (B5.out.trans (hb6.mono B5.out.size))
  have S6 := Lib.hid (S5.out.trans (hb6.mono S5.out.size))
  clear hqq hb6 D5 R5 B5 S5 I5 J5
  refine hK.out _ _ (HS.out _ S6.out) (fun hHeld => ?_)
  try simp only [Act.put, List.getElem_toArray, List.getElem_cons_succ, List.getElem_cons_zero, List.setIfInBounds_toArray, List.set_cons_zero, List.set_cons_succ]
  refine wpAnyH_take (i := 17) (v := .bool false) rfl (by kernel_rfl) (by kernel_rfl) (by kernel_rfl) (fun _ _ _ h => h) (Or.inl ⟨by kernel_rfl, fun w _ => by go_simp⟩) hHeld ?_
  try simp only [Act.put, List.getElem_toArray, List.getElem_cons_succ, List.getElem_cons_zero, List.setIfInBounds_toArray, List.set_cons_zero, List.set_cons_succ]
  refine wpAnyH_take (i := 18) (v := .bool false) rfl (by kernel_rfl) (by kernel_rfl) (by kernel_rfl) (fun _ _ _ h => h) (Or.inl ⟨by kernel_rfl, fun w _ => by go_simp⟩) hHeld ?_
  try simp only [Act.put, List.getElem_toArray, List.getElem_cons_succ, List.getElem_cons_zero, List.setIfInBounds_toArray, List.set_cons_zero, List.set_cons_succ]
  refine wpAnyH_done (by kernel_rfl) ?_ _
  clear hHeld HS S6
  go_wp2_with fail
  go_loopw [5] (fun i wr => ∃ k : Nat, k ≤ D.blks.length + 2 ∧ i = .int .i64 ((k : Int) - 1) ∧ Below w6.heap.size w6 wr) (fun i _ => (D.blks.length + 2 - (intOf i + 1)).toNat)
  case atStart => exact ⟨0, Nat.zero_le _, rfl, Below.refl _ _⟩
  case round =>
    obtain ⟨k, hk, rfl, hb⟩ := hrel
    have BK := Lib.hid hb
    have DK := Lib.hid (D6.out.keep hb)
    have RK := Lib.hid (R6.out.keep hb)
    clear hb
    obtain ⟨c0, _⟩ := RK.out.head.get 0 _ rfl
    obtain ⟨z, hz⟩ : ∃ z : Int, z = (k : Int) - 1 := ⟨_, rfl⟩
    rw [← hz]
    by_cases hlt : k < D.blks.length + 2
    · have k1 : z ≤ (D.blks.length : Int) := by omega
      have kw : IntKind.i64.wrap (z + 1) = z + 1 := IntWalk.i64_in _ (by omega)
      have HZ := Lib.hid hz
      clear hz
      go_wp2_with fail
      refine (read_any _ DK.out z).mono ?_
      rintro e w7 ⟨A7, m7, c7, rfl, hrd, _, _, _, hb7⟩
      have B7 := Lib.hid (BK.out.trans (hb7.mono BK.out.size))
      have R7 := Lib.hid (RK.out.keep hb7)
      have S7 := Lib.hid hrd
      clear hb7 hrd DK RK BK c0
      go_wp2_with fail
      refine (readref_any _ ⟨_, _, _, _, R7.out⟩ z).mono ?_
      rintro e w8 ⟨rfl, hb8⟩
      have B8 := Lib.hid (B7.out.trans (hb8.mono B7.out.size))
      have h8 := conv8 A7 m7 c7 _ w8 (S7.out.keep hb8)
      clear hb8 B7 R7 S7
      go_wp2_with fail
      go_roundw
      case rel => exact ⟨k + 1, by omega, by have := HZ.out; go_num, B8.out⟩
      case measure => have := HZ.out; simp [intOf]; omega
    · have k1 : ¬ z ≤ (D.blks.length : Int) := by omega
      clear hz
      go_wp2_with fail
      go_ret
      exact ⟨rfl, B6.out.trans (BK.out.mono B6.out.size)⟩
end

end Go.Proofs.Ytdnhlpddnbholaa
