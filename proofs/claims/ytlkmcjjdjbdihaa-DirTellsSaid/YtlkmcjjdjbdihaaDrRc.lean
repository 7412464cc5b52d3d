/-
  The document's Right, At, may.
-/
import Derived.Test.YtlkmcjjdjbdihaaDrRb
namespace Go.Proofs.Ytlkmcjjdjbdihaa
open Go.RowKit Go.Maps
set_option linter.unusedVariables false
set_option linter.unusedSimpArgs false
attribute [local go_sem ↓] Go.wp_at_zero Go.wp_at_succ

theorem okb_no {b : UInt16} (h : ¬ (0 < b.toNat ∧ b.toNat < 4096)) : okb b = false := decide_eq_false h
theorem okb_yes {b : UInt16} (h : 0 < b.toNat ∧ b.toNat < 4096) : okb b = true := decide_eq_true h
theorem not_right {d : Dir} (h : ¬ RightD d d.depth.toNat) : rightB d = false := by
  cases hr : rightB d
  · rfl
  · exact absurd (rightB_iff.1 hr) h

set_option maxHeartbeats 4000000 in
set_option maxRecDepth 100000 in
theorem rright_any (d : Dir) (A : Option Addr) (n c : Nat) (w : World) (h : ReadsW w A n d.slots) (hn : n ≤ maxLen) :
    Calls Try.prog 18 #[dval d A n c] w fun e w' => e = .returned (.bool (rightB d)) ∧ Below w.heap.size w w' := by
  have HL := Lib.hid h.1
  have HR := Lib.hid h; clear h
  obtain ⟨W0, hW0⟩ : ∃ W0 : World, W0 = w.alloc (.cells #[.int .u8 (d.depth.toNat : Int), .slice A n c] 24) := ⟨_, rfl⟩
  have B0 : Hid (Below w.heap.size w W0) := Lib.hid (by rw [hW0]; exact (Below.refl _ w).alloc (Nat.le_refl _) _)
  have S0 : Hid (BoxD W0 w.heap.size d A n c) := Lib.hid (by rw [hW0]; exact BoxD.new w d A n c HR.out)
  have HW := Lib.hid hW0; clear hW0
  obtain ⟨a0, a1⟩ := S0.out.cells
  unfold dval
  go_enter Try.func18, Try.ntmps18
  go_upto_region 1 with fail
  rw [← HW.out]
  clear HW
  by_cases h8 : d.depth.toNat ≤ 8
  · have d1 : ¬ (8 : Int) < (d.depth.toNat : Int) := by omega
    have d2 : decide (8 < d.depth.toNat) = false := decide_eq_false (by omega)
    have d3 : ¬ 8 < d.depth.toNat := by omega
    have hmn := fun w => many_any d.depth.toNat w h8
    obtain ⟨M, hM⟩ : ∃ M, M = 2 ^ d.depth.toNat := ⟨_, rfl⟩
    rw [← hM] at hmn
    have HMN := Lib.hid hmn
    have HM := Lib.hid hM
    clear hmn hM
    by_cases hnm : n = M
    · subst hnm
      have hn256 : n ≤ 256 := by rw [HM.out]; exact pow8 h8
      go_upto_region 1 with fail
      go_quiet ((go_at_call 36; exact Calls.quiet_of_same ((HMN.out _).mono fun e w' ⟨a, b⟩ => ⟨a, b.symm⟩)))
      go_wp2_with fail
      clear d1 d2 d3
      go_loopw [3] (fun i wr => ∃ j : Nat, j ≤ n ∧ i = .int .i64 (j : Int) ∧ (∀ t, t < j → okb (at_ d.slots t) = true ∧ 0 ≤ depthI d.slots d.depth.toNat t) ∧ Below W0.heap.size W0 wr) (fun i _ => n - (intOf i).toNat)
      case atStart => exact ⟨0, Nat.zero_le _, rfl, fun t ht => absurd ht (Nat.not_lt_zero _), by first | exact Below.refl _ _ | exact bdn _ _⟩
      case round =>
        obtain ⟨j, hj, rfl, hgood, hb⟩ := hrel
        have HGD := Lib.hid hgood; clear hgood
        have HB := Lib.hid hb; clear hb
        have Sj := Lib.hid (S0.out.keep HB.out)
        obtain ⟨a0, a1⟩ := Sj.out.cells
        by_cases hjn : j < n
        · have HJ := Lib.hid hjn
          obtain ⟨bd, od, rfl, _, xj⟩ := Sj.out.rd.getD hjn
          have j0 : (0 : Int) ≤ (j : Int) := Int.natCast_nonneg _
          have j1 : (j : Int) < (n : Int) := Int.ofNat_lt.2 hjn
          obtain ⟨x, hx⟩ : ∃ x, x = (at_ d.slots j).toNat := ⟨_, rfl⟩
          rw [← hx] at xj
          have HX := Lib.hid hx
          clear hx
          by_cases x0 : x = 0
          · subst x0
            have HF : Hid (rightB d = false) := Lib.hid (not_right fun hR => by
              have := hR.ok j (by rw [← HM.out]; exact HJ.out)
              rw [okb_no (by rw [← HX.out]; omega)] at this
              cases this)
            go_wp2_with fail
            go_ret
            exact ⟨by rw [HF.out]; rfl, B0.out.trans (HB.out.mono B0.out.size)⟩
          · by_cases x4 : 4096 ≤ x
            · have x1 : ¬ (x : Int) < 1 := by omega
              have x2 : (4095 : Int) < (x : Int) := by omega
              have HF : Hid (rightB d = false) := Lib.hid (not_right fun hR => by
                have := hR.ok j (by rw [← HM.out]; exact HJ.out)
                rw [okb_no (by rw [← HX.out]; omega)] at this
                cases this)
              go_wp2_with fail
              go_ret
              exact ⟨by rw [HF.out]; rfl, B0.out.trans (HB.out.mono B0.out.size)⟩
            · have x1 : ¬ (x : Int) < 1 := by omega
              have x2 : ¬ (4095 : Int) < (x : Int) := by omega
              have HOK : Hid (okb (at_ d.slots j) = true) := Lib.hid (okb_yes (by rw [← HX.out]; omega))
              go_wp2_with fail
              rw [dval_eq]
              refine (rdepth_any d _ n c j _ Sj.out.rd h8 HM.out HJ.out).mono ?_
              rintro e w5 ⟨rfl, hb⟩
              have HB5 := Lib.hid (HB.out.trans (hb.mono HB.out.size))
              clear hb a0 a1
              obtain ⟨kI, hkI⟩ : ∃ k, k = depthI d.slots d.depth.toNat j := ⟨_, rfl⟩
              rw [← hkI]
              have HKI := Lib.hid hkI
              clear hkI
              by_cases hk0 : kI < 0
              · have HF : Hid (rightB d = false) := Lib.hid (not_right fun hR => by
                  obtain ⟨k, hk, hf⟩ := hR.fit j (by rw [← HM.out]; exact HJ.out)
                  have h9 := depthI_fit (by rw [← HM.out]; exact HJ.out) hk hf
                  rw [← HKI.out] at h9
                  omega)
                unfold dval
                go_wp2_with fail
                go_ret
                exact ⟨by rw [HF.out]; rfl, B0.out.trans (HB5.out.mono B0.out.size)⟩
              · have HGK : Hid (0 ≤ depthI d.slots d.depth.toNat j) := Lib.hid (by rw [← HKI.out]; omega)
                unfold dval
                go_wp2_with fail
                go_roundw
                case rel => exact ⟨j + 1, HJ.out, by go_num, fun t ht => if e : t = j then by rw [e]; exact ⟨HOK.out, HGK.out⟩ else HGD.out t (by omega), HB5.out⟩
                case measure => have := HJ.out; simp [intOf]; omega
        · obtain rfl : n = j := by omega
          have j1 : ¬ (n : Int) < (n : Int) := by omega
          have HF : Hid (rightB d = true) := Lib.hid (rightB_iff.2 ⟨rfl, h8, by rw [HL.out, HM.out], fun s hs => (HGD.out s (by rw [HM.out]; exact hs)).1, fun s hs => depthFrom_ge _ _ _ 0 (HGD.out s (by rw [HM.out]; exact hs)).2⟩)
          go_wp2_with fail
          go_ret
          exact ⟨by rw [HF.out]; rfl, B0.out.trans (HB.out.mono B0.out.size)⟩
    · have q1 : ((n : Int) == (M : Int)) = false := beq_eq_false_iff_ne.2 (fun e => hnm (Int.ofNat.inj e))
      have q2 : (n == M) = false := beq_eq_false_iff_ne.2 hnm
      have HF : Hid (rightB d = false) := Lib.hid (not_right fun hR => hnm (by rw [← HL.out, hR.len, HM.out]))
      clear hnm
      go_upto_region 1 with fail
      go_quiet ((go_at_call 36; exact Calls.quiet_of_same ((HMN.out _).mono fun e w' ⟨a, b⟩ => ⟨a, b.symm⟩)))
      go_wp2_with fail
      go_ret
      exact ⟨by rw [HF.out]; rfl, by first | exact B0.out | exact below_dN B0.out _⟩
  · have d1 : (8 : Int) < (d.depth.toNat : Int) := by omega
    have d3 : 8 < d.depth.toNat := by omega
    have HF : Hid (rightB d = false) := Lib.hid (not_right fun hR => h8 hR.le)
    go_upto_region 1 with fail
    go_quiet (fail)
    go_wp2_with fail
    go_ret
    exact ⟨by rw [HF.out]; rfl, by first | exact B0.out | exact below_dN B0.out _⟩

set_option maxHeartbeats 2000000 in
set_option maxRecDepth 100000 in
theorem rat_any (d : Dir) (A : Option Addr) (n c : Nat) (x : UInt64) (w : World) (h : ReadsW w A n d.slots) (hn : n ≤ maxLen) :
    Calls Try.prog 13 #[dval d A n c, .int .u64 (x.toNat : Int)] w fun e w' => e = .returned (.tuple #[.int .i64 (if rightB d = true then (slotOf d.depth.toNat x : Int) else 0), .int .i64 (if rightB d = true then 0 else 170)]) ∧ Below w.heap.size w w' := by
  have HR := Lib.hid h; clear h
  obtain ⟨W0, hW0⟩ : ∃ W0 : World, W0 = w.alloc (.cells #[.int .u8 (d.depth.toNat : Int), .slice A n c] 24) := ⟨_, rfl⟩
  have B0 : Hid (Below w.heap.size w W0) := Lib.hid (by rw [hW0]; exact (Below.refl _ w).alloc (Nat.le_refl _) _)
  have S0 : Hid (BoxD W0 w.heap.size d A n c) := Lib.hid (by rw [hW0]; exact BoxD.new w d A n c HR.out)
  have HW := Lib.hid hW0; clear hW0
  have hx := UInt64.toNat_lt x
  have HXL := Lib.hid hx; clear hx
  cases hr : rightB d
  · have HF := Lib.hid hr; clear hr
    simp only [Bool.false_eq_true, if_false]
    unfold dval
    go_enter Try.func13, Try.ntmps13
    go_wp2_with fail
    rw [← HW.out, dval_eq]
    refine (rright_any d A n c _ S0.out.rd hn).mono ?_
    rintro e w1 ⟨rfl, hb⟩
    rw [HF.out]
    have B1 := Lib.hid (B0.out.trans (hb.mono B0.out.size)); clear hb
    go_wp2_with fail
    go_ret2
    exact ⟨rfl, B1.out⟩
  · have HF := Lib.hid hr; clear hr
    have hR := rightB_iff.1 HF.out
    have h8 := hR.le
    have HSL : Hid (slotOf d.depth.toNat x < 2 ^ d.depth.toNat) := Lib.hid (slot_lt x.toNat _ (by simpa using HXL.out) h8)
    have HP8 := Lib.hid (pow8 h8)
    clear hR
    simp only [if_true]
    unfold dval
    go_enter Try.func13, Try.ntmps13
    go_wp2_with fail
    rw [← HW.out, dval_eq]
    refine (rright_any d A n c _ S0.out.rd hn).mono ?_
    rintro e w1 ⟨rfl, hb⟩
    rw [HF.out]
    have B1 := Lib.hid (B0.out.trans (hb.mono B0.out.size))
    obtain ⟨a0, a1⟩ := (S0.out.keep hb).cells
    clear hb
    go_wp2_with fail
    go_loopw [1, 6] (fun p i wr => ∃ k : Nat, d.depth.toNat ≤ k ∧ k ≤ 64 ∧ i = .int .i64 (k : Int) ∧ p = .int .u64 ((x.toNat / 2 ^ (k - d.depth.toNat) : Nat) : Int) ∧ wr = w1) (fun _ i _ => 64 - (intOf i).toNat)
    case atStart => exact ⟨d.depth.toNat, Nat.le_refl _, by omega, rfl, by rw [Nat.sub_self, Nat.pow_zero, Nat.div_one], rfl⟩
    case round =>
      obtain ⟨k, hk, hk64, rfl, rfl, rfl⟩ := hrel
      by_cases hlt : k < 64
      · obtain ⟨p, hp⟩ : ∃ p, p = x.toNat / 2 ^ (k - d.depth.toNat) := ⟨_, rfl⟩
        obtain ⟨q, hq⟩ : ∃ q, q = x.toNat / 2 ^ (k + 1 - d.depth.toNat) := ⟨_, rfl⟩
        have hpq : (p : Int) / 2 = (q : Int) := by rw [hp, hq, show k + 1 - d.depth.toNat = k - d.depth.toNat + 1 by omega, Nat.pow_succ, ← Nat.div_div_eq_div_mul]; rfl
        have hpl : p < 18446744073709551616 := by rw [hp]; exact Nat.lt_of_le_of_lt (Nat.div_le_self _ _) (by simpa using HXL.out)
        have hql : q < 18446744073709551616 := by omega
        rw [← hp]
        have HQ := Lib.hid hq
        have HLT := Lib.hid hlt
        have k1 : (k : Int) < 64 := by omega
        clear hp hq
        go_wp2_with fail
        go_roundw
        case rel => exact ⟨k + 1, by omega, HLT.out, by go_num, by rw [HQ.out], trivial⟩
        case measure => have := HLT.out; simp [intOf]; omega
      · obtain rfl : k = 64 := by omega
        have hs : x.toNat / 2 ^ (64 - d.depth.toNat) = slotOf d.depth.toNat x := rfl
        rw [hs]
        have hsl := Nat.lt_of_lt_of_le HSL.out HP8.out
        obtain ⟨v, hv⟩ : ∃ v, v = slotOf d.depth.toNat x := ⟨_, rfl⟩
        rw [← hv] at hsl ⊢
        have HV := Lib.hid hv
        have wv := (wrap_small (n := v) (by omega)).1
        have wv2 := (wrap_small (n := v) (by omega)).2
        clear hv hs
        go_wp2_with fail
        go_ret2
        exact ⟨by rw [← HV.out]; rfl, B1.out⟩

set_option maxHeartbeats 2000000 in
set_option maxRecDepth 100000 in
theorem may_any (d : Dir) (A : Option Addr) (n c : Nat) (s : Int) (w : World) (h : ReadsW w A n d.slots) (hn : n ≤ maxLen) :
    Calls Try.prog 31 #[dval d A n c, .int .i64 s] w fun e w' => e = .returned (.int .i64 (bucketE d s)) ∧ Below w.heap.size w w' := by
  have HL := Lib.hid h.1
  have HR := Lib.hid h; clear h
  obtain ⟨W0, hW0⟩ : ∃ W0 : World, W0 = w.alloc (.cells #[.int .u8 (d.depth.toNat : Int), .slice A n c] 24) := ⟨_, rfl⟩
  have B0 : Hid (Below w.heap.size w W0) := Lib.hid (by rw [hW0]; exact (Below.refl _ w).alloc (Nat.le_refl _) _)
  have S0 : Hid (BoxD W0 w.heap.size d A n c) := Lib.hid (by rw [hW0]; exact BoxD.new w d A n c HR.out)
  have HW := Lib.hid hW0; clear hW0
  unfold dval
  go_enter Try.func31, Try.ntmps31
  go_wp2_with fail
  rw [← HW.out, dval_eq]
  refine (rright_any d A n c _ S0.out.rd hn).mono ?_
  rintro e w1 ⟨rfl, hb⟩
  have B1 := Lib.hid (B0.out.trans (hb.mono B0.out.size))
  obtain ⟨a0, a1⟩ := (S0.out.keep hb).cells
  clear hb
  unfold dval
  cases hr : rightB d
  · have HF : Hid (bucketE d s = 170) := Lib.hid (by unfold bucketE; rw [hr]; rfl)
    clear hr
    go_wp2_with fail
    go_ret
    exact ⟨by rw [HF.out]; rfl, B1.out⟩
  · by_cases s0 : s < 0
    · have HF : Hid (bucketE d s = 2) := Lib.hid (by unfold bucketE; rw [hr, if_pos rfl, if_neg (by omega)])
      clear hr
      go_wp2_with fail
      go_ret
      exact ⟨by rw [HF.out]; rfl, B1.out⟩
    · by_cases s1 : (n : Int) ≤ s
      · have HF : Hid (bucketE d s = 2) := Lib.hid (by unfold bucketE; rw [hr, if_pos rfl, if_neg (by rw [HL.out]; omega)])
        clear hr
        go_wp2_with fail
        go_ret
        exact ⟨by rw [HF.out]; rfl, B1.out⟩
      · have HF : Hid (bucketE d s = 0) := Lib.hid (by unfold bucketE; rw [hr, if_pos rfl, if_pos (by rw [HL.out]; omega)])
        clear hr
        go_wp2_with fail
        go_ret
        exact ⟨by rw [HF.out]; rfl, B1.out⟩

end Go.Proofs.Ytlkmcjjdjbdihaa
