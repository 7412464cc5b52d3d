/-
  The document's Halve.
-/
import Derived.Test.YtlkmcjjdjbdihaaDrRf
namespace Go.Proofs.Ytlkmcjjdjbdihaa
open Go.RowKit Go.Maps
set_option linter.unusedVariables false
set_option linter.unusedSimpArgs false
attribute [local go_sem ↓] Go.wp_at_zero Go.wp_at_succ


theorem hlv_told (d : Dir) (j : Nat) : toldL (fun i => at_ d.slots (2 * i)) (j + 1) = toldL (fun i => at_ d.slots (2 * i)) j ++ [at_ d.slots (2 * j)] := toldL_succ _ _

/-- A pair that differs: a bucket of one slot. -/
theorem halve_diff {d : Dir} {D j : Nat} (hR : RightD d D) (hj : 2 * j + 1 < 2 ^ D) (h : at_ d.slots (2 * j) ≠ at_ d.slots (2 * j + 1)) : halveE d = 171 := by
  unfold halveE
  rw [right_of hR, if_pos rfl, if_pos]
  obtain ⟨r, hr, h1, h2⟩ := runs_cover d.slots 0 (2 * j) (Nat.zero_le _) (by rw [hR.len]; omega)
  refine List.any_eq_true.2 ⟨r, hr, decide_eq_true ?_⟩
  obtain ⟨_, e2, e3, e4, _, _⟩ := runs_each d.slots 0 r hr
  have hl := hR.len
  obtain ⟨k, hk, hf⟩ := hR.fit r.1 (by omega)
  obtain ⟨f1, f2⟩ := run_of_fit hl hk hr hf
  by_cases h0 : D - k = 0
  · rw [f2, h0]
  · exfalso
    obtain ⟨e, he⟩ : ∃ e, D - k = e + 1 := ⟨D - k - 1, by omega⟩
    rw [he] at f1 f2
    have hev : (2 : Nat) ^ (e + 1) = 2 * 2 ^ e := by rw [Nat.pow_succ]; omega
    have hev2 : r.1 / 2 ^ (e + 1) * 2 ^ (e + 1) = 2 * (r.1 / 2 ^ (e + 1) * 2 ^ e) := by rw [hev]; rw [Nat.mul_left_comm]
    rw [hev2] at f1
    rw [hev] at f2
    refine h ((e4 (2 * j) h1 h2).trans (e4 (2 * j + 1) (by omega) ?_).symm)
    omega
/-- All pairs alike: no such. -/
theorem halve_same {d : Dir} {D : Nat} (hR : RightD d D) (hD : D ≠ 0) (h : ∀ j, 2 * j + 1 < 2 ^ D → at_ d.slots (2 * j) = at_ d.slots (2 * j + 1)) : halveE d = 0 := by
  unfold halveE
  rw [right_of hR, if_pos rfl, if_neg]
  intro ha
  obtain ⟨r, hr, h1⟩ := List.any_eq_true.1 ha
  have h1 := of_decide_eq_true h1
  obtain ⟨_, e2, e3, e4, _, _⟩ := runs_each d.slots 0 r hr
  have hl := hR.len
  obtain ⟨k, hk, hf⟩ := hR.fit r.1 (by omega)
  obtain ⟨f1, f2⟩ := run_of_fit hl hk hr hf
  have hk0 : D - k = 0 := by
    false_or_by_contra
    rename_i h0
    have := Nat.pow_le_pow_right (show 0 < 2 by omega) (show 1 ≤ D - k by omega)
    omega
  unfold Fits at hf
  rw [hk0] at hf
  simp only [Nat.pow_zero, Nat.div_one] at hf
  obtain ⟨e, he⟩ : ∃ e, D = e + 1 := ⟨D - 1, by omega⟩
  have hev : (2 : Nat) ^ D = 2 * 2 ^ e := by rw [he, Nat.pow_succ]; omega
  have hj := h (r.1 / 2) (by omega)
  rcases Nat.mod_two_eq_zero_or_one r.1 with hm | hm
  · have e1 : 2 * (r.1 / 2) = r.1 := by omega
    rw [e1] at hj
    have := (hf (r.1 + 1) (by omega)).1 hj.symm
    omega
  · have e1 : 2 * (r.1 / 2) + 1 = r.1 := by omega
    rw [e1] at hj
    have := (hf (2 * (r.1 / 2)) (by omega)).1 hj
    omega
theorem halve_one {d : Dir} (hR : RightD d 0) : halveE d = 171 := by
  unfold halveE
  rw [right_of hR, if_pos rfl, if_pos]
  obtain ⟨r, hr, h1, h2⟩ := runs_cover d.slots 0 0 (Nat.zero_le _) (by rw [hR.len]; decide)
  refine List.any_eq_true.2 ⟨r, hr, decide_eq_true ?_⟩
  obtain ⟨_, e2, e3, e4, _, _⟩ := runs_each d.slots 0 r hr
  have hl := hR.len
  rw [Nat.pow_zero] at hl
  omega

set_option maxHeartbeats 8000000 in
set_option maxRecDepth 100000 in
theorem rhalve_any (d : Dir) (A : Option Addr) (n c : Nat) (w : World) (h : ReadsW w A n d.slots) (hn : n ≤ maxLen) :
    Calls Try.prog 25 #[dval d A n c] w fun e w' => RetV w w' (halveD d) (halveE d) e := by
  have HL := Lib.hid h.1
  have HR := Lib.hid h; clear h
  obtain ⟨W0, hW0⟩ : ∃ W0 : World, W0 = w.alloc (.cells #[.int .u8 (d.depth.toNat : Int), .slice A n c] 24) := ⟨_, rfl⟩
  obtain ⟨W1, hW1⟩ : ∃ W1 : World, W1 = W0.alloc (.cells #[.int .u8 0, .slice none 0 0] 24) := ⟨_, rfl⟩
  have b0 : Below w.heap.size w W0 := by rw [hW0]; exact (Below.refl _ w).alloc (Nat.le_refl _) _
  have b1 : Below W0.heap.size W0 W1 := by rw [hW1]; exact (Below.refl _ _).alloc (Nat.le_refl _) _
  have z0 : W0.heap.size = w.heap.size + 1 := by rw [hW0]; simp
  have s0 : BoxD W0 w.heap.size d A n c := by rw [hW0]; exact BoxD.new w d A n c HR.out
  have q1 : MemC W1 (w.heap.size + 1) 0 [.int .u8 0, .slice none 0 0] := by rw [hW1, ← z0]; exact MemC.new W0 [.int .u8 0, .slice none 0 0] 24
  have B1 := Lib.hid (b0.trans (b1.mono b0.size))
  have S1 := Lib.hid (s0.keep b1)
  have Q1 := Lib.hid q1
  have HW : Hid (W1 = (w.alloc (.cells #[.int .u8 (d.depth.toNat : Int), .slice A n c] 24)).alloc (.cells #[.int .u8 0, .slice none 0 0] 24)) := Lib.hid (by rw [hW1, hW0])
  clear b0 b1 z0 s0 q1 hW0 hW1
  obtain ⟨a0, a1⟩ := S1.out.cells
  unfold dval
  go_enter Try.func25, Try.ntmps25
  go_upto_region 1 with fail
  rw [← HW.out]
  clear HW
  go_wp2_with fail
  rw [dval_eq]
  refine (rright_any d A n c _ S1.out.rd hn).mono ?_
  rintro e w3 ⟨rfl, hb⟩
  have B3 := Lib.hid (B1.out.trans (hb.mono B1.out.size))
  have S3 := Lib.hid (S1.out.keep hb)
  have Q3 := Lib.hid (Q1.out.keep hb)
  clear hb a0 a1 B1 S1 Q1
  obtain ⟨a0, a1⟩ := S3.out.cells
  obtain ⟨q0, _⟩ := Q3.out.get 0 _ rfl
  obtain ⟨q1, _⟩ := Q3.out.get 1 _ rfl
  have hfin : ∀ W, Below w.heap.size w W → ∀ u v, Below w.heap.size w ((W.setCell ⟨w.heap.size + 1, 0, none⟩ u).setCell ⟨w.heap.size + 1, 1, none⟩ v) := fun W hW u v => (hW.setCell (p := ⟨w.heap.size + 1, 0, none⟩) (by simp) _).setCell (p := ⟨w.heap.size + 1, 1, none⟩) (by simp) _
  have HFN := Lib.hid hfin; clear hfin
  have hZ : Hid (w.heap.size + 1 < w3.heap.size) := Lib.hid Q3.out.at_.lt
  unfold dval
  cases hr : rightB d
  · have HF : Hid (halveE d = 170) := Lib.hid (by unfold halveE; rw [hr]; rfl)
    clear hr
    go_wp2_with fail
    refine bodyPost_ret (v := .tuple #[dzero, .int .i64 170]) (by simp [results, Try.results25, go_sem, q0, q1, dzero]) rfl (by rw [HF.out]; exact retv_zero (by decide) (HFN.out _ B3.out _ _))
  · have hR := rightB_iff.1 hr
    have hd8 := hR.le
    by_cases h8 : d.depth.toNat = 0
    · have HF : Hid (halveE d = 171) := Lib.hid (by rw [h8] at hR; exact halve_one hR)
      rw [h8] at a0
      clear hr hR
      go_wp2_with fail
      refine bodyPost_ret (v := .tuple #[dzero, .int .i64 171]) (by simp [results, Try.results25, go_sem, q0, q1, dzero]) rfl (by rw [HF.out]; exact retv_zero (by decide) (HFN.out _ B3.out _ _))
    · have h8i : ((d.depth.toNat : Int) == 0) = false := beq_eq_false_iff_ne.2 (by omega)
      have h8n : (d.depth.toNat == 0) = false := beq_eq_false_iff_ne.2 h8
      have hdn : (d.depth - 1).toNat = d.depth.toNat - 1 := by
        rw [UInt8.toNat_sub_of_le _ _ (by rw [UInt8.le_iff_toNat_le]; show 1 ≤ d.depth.toNat; omega)]
        rfl
      obtain ⟨z, hz⟩ : ∃ z : Int, z = ((d.depth - 1).toNat : Int) := ⟨_, rfl⟩
      have hz2 : (d.depth.toNat : Int) - 1 = z := by rw [hz, hdn]; omega
      have hu : IntKind.u8.wrap ((d.depth.toNat : Int) - 1) = z := by rw [IntWalk.u8_in _ (by omega)]; exact hz2
      have hu2 : ((d.depth.toNat : Int) - 1) % 256 = z := by omega
      have HZZ : Hid (((halveD d).depth.toNat : Int) = z) := Lib.hid hz.symm
      have hl : n = 2 ^ d.depth.toNat := by rw [← HL.out, hR.len]
      have hn256 : n ≤ 256 := by rw [hl]; exact pow8 hd8
      obtain ⟨m, hm⟩ : ∃ m, m = 2 ^ (d.depth.toNat - 1) := ⟨_, rfl⟩
      have hnm : n = 2 * m := by
        rw [hl, hm, ← Nat.pow_succ']
        congr 1
        omega
      have HLEN : Hid (toldL (fun i => at_ d.slots (2 * i)) m = (halveD d).slots) := Lib.hid (by unfold halveD; rw [hm])
      have HDF : Hid (∀ j, j < m → at_ d.slots (2 * j) ≠ at_ d.slots (2 * j + 1) → halveE d = 171) := Lib.hid (fun j hj hne => halve_diff hR (by rw [← hl]; omega) hne)
      have HSM : Hid ((∀ j, j < m → at_ d.slots (2 * j) = at_ d.slots (2 * j + 1)) → halveE d = 0) := Lib.hid (fun hs => halve_same hR h8 (fun j hj => hs j (by rw [← hl] at hj; omega)))
      obtain ⟨X, hX⟩ : ∃ X : World, X = w3.alloc (.cells #[.int .u8 z, .slice none 0 0] 24) := ⟨_, rfl⟩
      have O0 : Hid (OutS w3 X z (.slice none 0 0) []) := Lib.hid (by rw [hX]; exact OutS.new w3 _)
      have HX := Lib.hid hX
      have HNM := Lib.hid hnm
      clear hX hr hR hz hz2 hl h8 hm hnm hdn
      go_upto_region 6 with fail
      rw [← HX.out]
      clear HX a0 a1 q0 q1 h8i h8n hu hu2
      go_wp2_with fail
      go_loopw [5] (fun i wr => ∃ (j : Nat) (v : Value), j ≤ m ∧ i = .int .i64 ((2 * j : Nat) : Int) ∧ OutS w3 wr z v (toldL (fun i => at_ d.slots (2 * i)) j) ∧ ∀ t, t < j → at_ d.slots (2 * t) = at_ d.slots (2 * t + 1)) (fun i _ => 2 * m - (intOf i).toNat)
      case atStart => exact ⟨0, _, Nat.zero_le _, rfl, O0.out, fun t ht => absurd ht (Nat.not_lt_zero _)⟩
      case round =>
        obtain ⟨j, v, hj, rfl, hout, hsame⟩ := hrel
        have HO := Lib.hid hout; clear hout
        have HSA := Lib.hid hsame; clear hsame
        have Sj := Lib.hid (S3.out.keep HO.out.bel)
        obtain ⟨a0, a1⟩ := Sj.out.cells
        obtain ⟨p0, f0⟩ := HO.out.mem.get 0 _ rfl
        obtain ⟨p1, f1⟩ := HO.out.mem.get 1 _ rfl
        have ls := HO.out.mem.at_.lt
        have ls2 := Sj.out.mem.at_.lt
        have hm128 : m ≤ 128 := by have := HNM.out; omega
        obtain ⟨i, hi⟩ : ∃ i, i = 2 * j := ⟨_, rfl⟩
        rw [← hi]
        have HI := Lib.hid hi
        have hi2 : i ≤ 256 := by omega
        obtain ⟨i', hi'⟩ : ∃ i', i' = i + 1 := ⟨_, rfl⟩
        have HI' := Lib.hid hi'
        have e1 : (i : Int) + 1 = (i' : Int) := by omega
        have w1' := (wrap_small (n := i') (by omega)).2
        have w2' := (wrap_small (n := i + 2) (by omega)).2
        have w3' : IntKind.i64.wrap ((i : Int) + 2) = ((i + 2 : Nat) : Int) := w2'
        have i0 : (0 : Int) ≤ (i : Int) := Int.natCast_nonneg _
        have i0' : (0 : Int) ≤ (i' : Int) := Int.natCast_nonneg _
        by_cases hjm : j < m
        · have HJ := Lib.hid hjm
          have hin : i < n := by have := HNM.out; omega
          have hin' : i' < n := by have := HNM.out; omega
          obtain ⟨bd, od, rfl, hbd, xj⟩ := Sj.out.rd.getD hin
          have xj' := Sj.out.rd.at' hin'
          have i1 : (i : Int) < (n : Int) := Int.ofNat_lt.2 hin
          have i1' : (i' : Int) < (n : Int) := Int.ofNat_lt.2 hin'
          have htd := hlv_told d j
          have hdf := HDF.out j hjm
          rw [← hi] at htd
          rw [← hi, ← hi'] at hdf
          obtain ⟨x, hx⟩ : ∃ x, x = at_ d.slots i := ⟨_, rfl⟩
          obtain ⟨y, hy⟩ : ∃ y, y = at_ d.slots i' := ⟨_, rfl⟩
          rw [← hx] at xj htd hdf
          rw [← hy] at xj' hdf
          have HX2 := Lib.hid hx
          have HY2 := Lib.hid hy
          have HWI := Lib.hid w3'
          clear hx hy w2' w3' hi hi'
          by_cases hxy : x = y
          · have q1 : ((x.toNat : Int) == (y.toNat : Int)) = true := by rw [hxy]; simp
            have HS2 : Hid (∀ t, t < j + 1 → at_ d.slots (2 * t) = at_ d.slots (2 * t + 1)) := Lib.hid (fun t ht => if e : t = j then by rw [e, ← HI.out, ← HI'.out, ← HX2.out, ← HY2.out, hxy] else HSA.out t (by omega))
            subst hxy
            obtain ⟨L, hL⟩ : ∃ L, L = toldL (fun i => at_ d.slots (2 * i)) j := ⟨_, rfl⟩
            rw [← hL] at HO htd
            have hLl : L.length ≤ 512 := by rw [hL, toldL_length]; omega
            have HTD := Lib.hid htd
            clear htd hdf hL q1
            go_upto_region 9 with fail
            go_quiet (fail)
            clear xj' e1 w1' i0' i1'
            go_upto_region 11 with fail
            generalize hV : World.drewN wr _ = V
            have HOV : Hid (OutS w3 V z v L) := Lib.hid (by rw [← hV]; exact HO.out.dN _)
            have SV := Lib.hid (S3.out.keep HOV.out.bel)
            have xv := SV.out.rd.at' hin
            rw [← HX2.out] at xv
            clear hV HO Sj a0 a1 p0 f0 p1 f1 xj ls ls2
            have HO := HOV
            clear HOV
            obtain ⟨a0, a1⟩ := SV.out.cells
            obtain ⟨p0, f0⟩ := HO.out.mem.get 0 _ rfl
            obtain ⟨p1, f1⟩ := HO.out.mem.get 1 _ rfl
            have ls := HO.out.mem.at_.lt
            have ls2 := SV.out.mem.at_.lt
            have hbd2 : bd < V.heap.size := by
              obtain ⟨b', o', e, hlt, _⟩ := SV.out.rd.getD hin
              injection e with e
              injection e with e _
              rw [e]; exact hlt
            go_region_law
              ((refine step_appendC (by rfl) _ _ 22 (by rfl) (w3.heap.size + 1) 26 (.int .u16 0) 1 2 Try.underlying22 u16info rfl (by omega) v L.length (wcells L) (by rfl) ?_ (some ⟨V.heap.size, 0, none⟩) 1 1 (wcells [x]) (by rfl) (by rfl) ?_ (wcells_one _) (by simp only [maxLen]; omega) (by omega) ?_ ?_; (first | exact (HO.out.row.alloc _) | exact ((own_drew HO.out.row).alloc _) | exact own_drew (HO.out.row.alloc _)); (first | exact (MemC.new V (wcells [x]) 26).cells | exact (MemC.new V (wcells [x]) 26).drew.cells | exact (MemC.new V.drew (wcells [x]) 26).cells); (simp; omega); intro v' w5 hown1 hgrow hnil hat; obtain ⟨A5, c5, rfl, _, _, _⟩ := own_readsW (l := L ++ [x]) (by rw [wcells_append]; exact hown1); have hgr : (V.alloc (.cells (wcells [x]).toArray 26)).grownBy w5 v.ownBlock := (by first | exact hgrow | exact grown_of_drew hgrow); obtain ⟨hm5, ho5⟩ := HO.out.app (k := [x]) (m := 1) rfl hown1 hgr; have HO5 := Lib.hid ho5; clear p0 f0 p1 f1; obtain ⟨p0, f0⟩ := hm5.get 0 _ rfl; obtain ⟨p1, f1⟩ := hm5.get 1 _ rfl; clear hown1 hgrow hgr hnil hat hm5 ho5))
            all_goals
              have HO6 := Lib.hid (show OutS w3 _ z _ (toldL (fun i => at_ d.slots (2 * i)) (j + 1)) by rw [HTD.out]; exact HO5.out)
              have w3' := HWI.out
              go_wp2_with fail
              clear w3'
              go_roundw
              case rel => exact ⟨j + 1, _, HJ.out, by rw [HI.out]; go_num, HO6.out, HS2.out⟩
              case measure => have := HJ.out; have := HI.out; simp [intOf]; omega
          · have q1 : ((x.toNat : Int) == (y.toNat : Int)) = false := beq_eq_false_iff_ne.2 (fun e => hxy (UInt16.toNat_inj.1 (Int.ofNat.inj e)))
            have HF : Hid (halveE d = 171) := Lib.hid (hdf hxy)
            obtain ⟨u, hu⟩ : ∃ u : Int, u = (x.toNat : Int) := ⟨_, rfl⟩
            obtain ⟨u', hu'⟩ : ∃ u : Int, u = (y.toNat : Int) := ⟨_, rfl⟩
            rw [← hu] at xj q1
            rw [← hu'] at xj' q1
            have q2 : (u = u') = False := eq_false (beq_eq_false_iff_ne.1 q1)
            have hq := Q3.out.keep HO.out.bel
            obtain ⟨q0, qf0⟩ := hq.get 0 _ rfl
            obtain ⟨q1', qf1⟩ := hq.get 1 _ rfl
            have B9 := Lib.hid (B3.out.trans (HO.out.bel.mono B3.out.size))
            clear hxy hdf htd hu hu' hq
            go_upto_region 9 with fail
            go_quiet (fail)
            go_wp2_with fail
            refine bodyPost_ret (v := .tuple #[dzero, .int .i64 171]) (by simp [results, Try.results25, go_sem, q0, q1', dzero]) rfl (by rw [HF.out]; exact retv_zero (by decide) (HFN.out _ (below_dN B9.out _) _ _))
        · obtain rfl : m = j := by omega
          have HF : Hid (halveE d = 0) := Lib.hid (HSM.out HSA.out)
          have hin : ¬ (i' : Int) < (n : Int) := by have := HNM.out; omega
          rw [HLEN.out] at HO
          obtain ⟨q0, qf0⟩ := (Q3.out.keep HO.out.bel).get 0 _ rfl
          obtain ⟨q1, qf1⟩ := (Q3.out.keep HO.out.bel).get 1 _ rfl
          obtain ⟨A9, c9, rfl, r9, l9⟩ := HO.out.reads
          obtain ⟨M, hM⟩ : ∃ M, M = (halveD d).slots.length := ⟨_, rfl⟩
          have HRS : Hid (RetV w ((wr.setCell ⟨w.heap.size + 1, 0, none⟩ (.int .u8 z)).setCell ⟨w.heap.size + 1, 1, none⟩ (.slice A9 M c9)) (halveD d) (halveE d) (.returned (.tuple #[.agg #[.int .u8 z, .slice A9 M c9], .int .i64 0]))) := Lib.hid (by
            rw [HF.out, hM]
            exact HO.out.ret (Below.refl _ _) B3.out HZZ.out (Nat.le_succ _) hZ.out)
          rw [← hM] at p1
          clear hM r9 l9 w2' w3' hi hi'
          go_wp2_with fail
          exact bodyPost_ret (v := .tuple #[.agg #[.int .u8 z, .slice A9 M c9], .int .i64 0]) (by simp [results, Try.results25, go_sem, q0, q1]) rfl HRS.out

end Go.Proofs.Ytlkmcjjdjbdihaa
