/-
  DirDouble: the walk.
-/
import Derived.Test.YtlkmcjjdjbdihaaDrDblP
namespace Go.Proofs.Ytlkmcjjdjbdihaa
open Go.RowKit Go.Maps
set_option linter.unusedVariables false
set_option linter.unusedSimpArgs false
attribute [local go_sem ↓] Go.wp_at_zero Go.wp_at_succ

theorem double_zero {d : Dir} (h : doubleE d ≠ 0) : rightB d = false ∨ (rightB d = true ∧ d.depth.toNat = 8) := by
  unfold doubleE at h
  cases hr : rightB d
  · exact .inl rfl
  · rw [hr, if_pos rfl] at h
    by_cases h8 : d.depth.toNat = 8
    · exact .inr ⟨rfl, h8⟩
    · rw [if_neg h8] at h; exact absurd rfl h
theorem double_fine {d : Dir} (h : doubleE d = 0) : rightB d = true ∧ d.depth.toNat ≠ 8 := by
  unfold doubleE at h
  cases hr : rightB d
  · rw [hr] at h; simp at h
  · rw [hr, if_pos rfl] at h
    refine ⟨rfl, fun h8 => ?_⟩
    rw [if_pos h8] at h
    simp at h

set_option maxHeartbeats 4000000 in
set_option maxRecDepth 100000 in
theorem dbl_bad (d : Dir) (A : Option Addr) (n c : Nat) (x : UInt64) (w : World) (h : ReadsW w A n d.slots) (hn : n ≤ maxLen) (hE : doubleE d ≠ 0) :
    Calls Try.prog 5 #[dval d A n c, .int .u64 (x.toNat : Int)] w fun e w' => e = .returned (.bool true) ∧ Below w.heap.size w w' := by
  have HE := Lib.hid hE
  have HZ := Lib.hid (double_zero hE)
  clear hE
  have HR := Lib.hid h; clear h
  obtain ⟨W0, hW0⟩ : ∃ W0 : World, W0 = w.alloc (.cells #[.int .u8 (d.depth.toNat : Int), .slice A n c] 24) := ⟨_, rfl⟩
  have B0 : Hid (Below w.heap.size w W0) := Lib.hid (by rw [hW0]; exact (Below.refl _ w).alloc (Nat.le_refl _) _)
  have S0 : Hid (BoxD W0 w.heap.size d A n c) := Lib.hid (by rw [hW0]; exact BoxD.new w d A n c HR.out)
  have HW := Lib.hid hW0; clear hW0
  obtain ⟨a0, a1⟩ := S0.out.cells
  unfold dval
  go_enter Try.func5, Try.ntmps5
  go_upto_region 1 with fail
  rw [← HW.out]
  clear HW
  go_wp2_with fail
  rw [dval_eq]
  refine (double_any d A n c _ S0.out.rd hn).mono ?_
  rintro e w1 hD
  obtain ⟨rfl, hb⟩ := retd_none hD HE.out
  clear hD a0 a1
  have HNE : Hid ((doubleE d != 0) = true) := Lib.hid (by simpa using HE.out)
  obtain ⟨W2, hW2⟩ : ∃ W : World, W = w1.alloc (.cells #[.int .u8 0, .slice none 0 0] 24) := ⟨_, rfl⟩
  have b2 : Below w1.heap.size w1 W2 := by rw [hW2]; exact (Below.refl _ _).alloc (Nat.le_refl _) _
  have q2 : MemC W2 w1.heap.size 0 [.int .u8 0, .slice none 0 0] := by rw [hW2]; exact MemC.new w1 [.int .u8 0, .slice none 0 0] 24
  have B2 := Lib.hid (B0.out.trans ((hb.trans (b2.mono hb.size)).mono B0.out.size))
  have S2 := Lib.hid ((S0.out.keep hb).keep b2)
  have Q2 := Lib.hid q2
  have HW := Lib.hid hW2
  clear hb b2 q2 hW2 S0 B0
  unfold dzero
  generalize doubleE d = E at *
  go_upto_region 2 with fail
  rw [← HW.out]
  clear HW
  obtain ⟨a0, a1⟩ := S2.out.cells
  obtain ⟨q0, _⟩ := Q2.out.get 0 _ rfl
  obtain ⟨q1, _⟩ := Q2.out.get 1 _ rfl
  go_wp2_with fail
  rw [dval_eq]
  refine (right_any d A n c _ S2.out.rd hn).mono ?_
  rintro e w3 ⟨rfl, hb⟩
  have B3 := Lib.hid (B2.out.trans (hb.mono B2.out.size))
  obtain ⟨a0, a1⟩ := (S2.out.keep hb).cells
  obtain ⟨q0, _⟩ := (Q2.out.keep hb).get 0 _ rfl
  obtain ⟨q1, _⟩ := (Q2.out.keep hb).get 1 _ rfl
  clear hb S2 Q2 HR
  have n0 := HNE.out
  rcases HZ.out with hz | ⟨hz, hz8⟩
  · rw [hz]
    clear hz HZ
    go_wp2_with fail
    refine (awake_any _).mono ?_
    rintro e w4 ⟨rfl, hb⟩
    have B4 := Lib.hid (B3.out.trans (hb.mono B3.out.size))
    go_wp2_with fail
    go_ret
    exact ⟨rfl, B4.out⟩
  · rw [hz]
    rw [hz8] at a0
    clear hz HZ
    go_wp2_with fail
    refine (awake_any _).mono ?_
    rintro e w4 ⟨rfl, hb⟩
    have B4 := Lib.hid (B3.out.trans (hb.mono B3.out.size))
    go_wp2_with fail
    go_ret
    exact ⟨rfl, B4.out⟩

set_option maxHeartbeats 8000000 in
set_option maxRecDepth 100000 in
theorem dbl_good (d two : Dir) (A : Option Addr) (n c D a b k : Nat) (x : UInt64) (w : World) (h : ReadsW w A n d.slots) (hR : RightD d D) (h8 : D < 8) (htwo : two = doubleD d) (ha : slotOf D x = a) (hb : slotOf (D + 1) x = b) (hk : k ≤ D) (hf : Fits d.slots D a k) (ha2 : a < 2 ^ D) (hb2 : b < 2 ^ (D + 1)) :
    Calls Try.prog 5 #[dval d A n c, .int .u64 (x.toNat : Int)] w fun e w' => e = .returned (.bool true) ∧ Below w.heap.size w w' := by
  have hba : b / 2 = a := by rw [← hb, slot_half D x h8, ha]
  have K0 := Lib.hid hR
  have K1 : Hid (rightB d = true) := Lib.hid (right_of hR)
  have K2 : Hid (doubleE d = 0) := Lib.hid (by unfold doubleE; rw [K1.out, if_pos rfl, if_neg (by rw [hR.dep]; omega)])
  have K3 : Hid (halveE two = 0) := Lib.hid (by rw [htwo]; exact double_halveE hR h8)
  have K4 : Hid (halveD two = d) := Lib.hid (by rw [htwo]; exact double_halve hR h8)
  have K5 : Hid (RightD two (D + 1)) := Lib.hid (by rw [htwo]; exact double_right hR h8)
  have K6 : Hid (rightB two = true) := Lib.hid (right_of K5.out)
  have K7 : Hid (at_ two.slots b = at_ d.slots a) := Lib.hid (by rw [htwo, double_at hR b hb2, hba])
  have K8 : Hid (Fits two.slots (D + 1) b k) := Lib.hid (by rw [htwo]; exact double_fits hR hb2 hk (by rw [hba]; exact hf))
  have K9 : Hid (sameD d d = true) := Lib.hid (sameD_iff.2 rfl)
  have Ka : Hid (slotOf d.depth.toNat x = a) := Lib.hid (by rw [hR.dep]; exact ha)
  have Kb : Hid (slotOf two.depth.toNat x = b) := Lib.hid (by rw [K5.out.dep]; exact hb)
  have Kc := Lib.hid hf
  have Kd : Hid (doubleD d = two) := Lib.hid htwo.symm
  have Kn : Hid (n = 2 ^ D) := Lib.hid (by rw [← h.1, hR.len])
  have hD8 := pow8 (D := D + 1) (by omega)
  have hn256 : n ≤ 256 := by rw [Kn.out]; exact pow8 (by omega)
  have han : a < n := by rw [Kn.out]; exact ha2
  have Ke := Lib.hid hba
  have Kf := Lib.hid hb2
  have Kg := Lib.hid ha2
  have Kh := Lib.hid hk
  have Ki := Lib.hid hD8
  have Kj : Hid (D + 1 ≤ 8) := Lib.hid (by omega)
  have hdnz : ((d.depth.toNat : Int) == 8) = false := beq_eq_false_iff_ne.2 (by rw [hR.dep]; omega)
  have Kk := Lib.hid hdnz
  have hb512 : b < 512 := by omega
  clear hR h8 htwo ha hb hf hba ha2 hb2 hk hD8 hdnz
  have hn : n ≤ maxLen := by simp only [maxLen]; omega
  obtain ⟨bd, od, rfl, _, _⟩ := h.getD han
  have HR := Lib.hid h; clear h
  obtain ⟨W0, hW0⟩ : ∃ W0 : World, W0 = w.alloc (.cells #[.int .u8 (d.depth.toNat : Int), .slice (some ⟨bd, od, none⟩) n c] 24) := ⟨_, rfl⟩
  have B0 : Hid (Below w.heap.size w W0) := Lib.hid (by rw [hW0]; exact (Below.refl _ w).alloc (Nat.le_refl _) _)
  have S0 : Hid (BoxD W0 w.heap.size d (some ⟨bd, od, none⟩) n c) := Lib.hid (by rw [hW0]; exact BoxD.new w d _ n c HR.out)
  have HW := Lib.hid hW0; clear hW0
  obtain ⟨a0, a1⟩ := S0.out.cells
  unfold dval
  go_enter Try.func5, Try.ntmps5
  go_upto_region 1 with fail
  rw [← HW.out]
  clear HW
  go_wp2_with fail
  rw [dval_eq]
  refine (double_any d _ n c _ S0.out.rd hn).mono ?_
  rintro e w1 hD
  rw [K2.out, Kd.out] at hD
  obtain ⟨A2, n2, c2, rfl, r2, h2, hm2, hb⟩ := retd_box hD
  have hn2 : n2 = 2 ^ (D + 1) := by rw [← r2.1, K5.out.len]
  have hbn : b < n2 := by rw [hn2]; exact Kf.out
  have hn2m : n2 ≤ 256 := by rw [hn2]; exact Ki.out
  obtain ⟨gd, og, rfl, _, _⟩ := r2.getD hbn
  have B2 := Lib.hid (B0.out.trans (hb.mono B0.out.size))
  have S1 := Lib.hid (S0.out.keep hb)
  clear hD hb a0 a1 hn2
  obtain ⟨V2, hV2⟩ : ∃ W : World, W = w1.alloc (.cells #[.int .u8 (two.depth.toNat : Int), .slice (some ⟨gd, og, none⟩) n2 c2] 24) := ⟨_, rfl⟩
  have bV2 : Below w1.heap.size w1 V2 := by rw [hV2]; exact (Below.refl _ _).alloc (Nat.le_refl _) _
  have T2 : Hid (BoxD V2 w1.heap.size two (some ⟨gd, og, none⟩) n2 c2) := Lib.hid (by rw [hV2]; exact BoxD.new w1 two (some ⟨gd, og, none⟩) n2 c2 r2)
  have BV2 := Lib.hid (B2.out.trans (bV2.mono B2.out.size))
  have HW := Lib.hid hV2
  have S2 := Lib.hid (S1.out.keep bV2)
  clear hV2 bV2
  unfold dval
  go_upto_region 2 with fail
  rw [← HW.out]
  clear HW
  obtain ⟨a0, a1⟩ := S2.out.cells
  go_wp2_with fail
  rw [dval_eq]
  refine (right_any d _ n c _ S2.out.rd hn).mono ?_
  rintro e w3 ⟨rfl, hb⟩
  rw [K1.out]
  have B3 := Lib.hid (BV2.out.trans (hb.mono BV2.out.size))
  have S3 := Lib.hid (S2.out.keep hb)
  have T3 := Lib.hid (T2.out.keep hb)
  clear hb a0 a1
  obtain ⟨a0, a1⟩ := S3.out.cells
  obtain ⟨t0, t1⟩ := T3.out.cells
  have kk := Kk.out
  go_wp2_with fail
  clear kk
  rw [dval_eq]
  refine (halve_any two _ n2 c2 _ T3.out.rd (by omega)).mono ?_
  rintro e w4 hD
  rw [K3.out, K4.out] at hD
  obtain ⟨A4, n4, c4, rfl, r4, h4, hm4, hb⟩ := retd_box hD
  have B4 := Lib.hid (B3.out.trans (hb.mono B3.out.size))
  have S4 := Lib.hid (S3.out.keep hb)
  have T4 := Lib.hid (T3.out.keep hb)
  clear hD hb a0 a1 t0 t1
  obtain ⟨V5, hV5⟩ : ∃ W : World, W = w4.alloc (.cells #[.int .u8 (d.depth.toNat : Int), .slice A4 n4 c4] 24) := ⟨_, rfl⟩
  have bV5 : Below w4.heap.size w4 V5 := by rw [hV5]; exact (Below.refl _ _).alloc (Nat.le_refl _) _
  have U5 : Hid (BoxD V5 w4.heap.size d A4 n4 c4) := Lib.hid (by rw [hV5]; exact BoxD.new w4 d A4 n4 c4 r4)
  have BV5 := Lib.hid (B4.out.trans (bV5.mono B4.out.size))
  have HW := Lib.hid hV5
  have S5 := Lib.hid (S4.out.keep bV5)
  have T5 := Lib.hid (T4.out.keep bV5)
  clear hV5 bV5
  unfold dval
  go_upto_region 5 with fail
  rw [← HW.out]
  clear HW
  obtain ⟨a0, a1⟩ := S5.out.cells
  go_wp2_with fail
  rw [dval_eq]
  refine (at_any d _ n c x _ S5.out.rd hn).mono ?_
  rintro e w6 ⟨rfl, hb⟩
  rw [K1.out, Ka.out, if_pos rfl, if_pos rfl]
  have B6 := Lib.hid (BV5.out.trans (hb.mono BV5.out.size))
  have S6 := Lib.hid (S5.out.keep hb)
  have T6 := Lib.hid (T5.out.keep hb)
  have U6 := Lib.hid (U5.out.keep hb)
  clear hb a0 a1
  obtain ⟨t0, t1⟩ := T6.out.cells
  unfold dval
  go_wp2_with fail
  rw [dval_eq]
  refine (at_any two _ n2 c2 x _ T6.out.rd (by omega)).mono ?_
  rintro e w7 ⟨rfl, hb⟩
  rw [K6.out, Kb.out, if_pos rfl, if_pos rfl]
  have B7 := Lib.hid (B6.out.trans (hb.mono B6.out.size))
  have S7 := Lib.hid (S6.out.keep hb)
  have T7 := Lib.hid (T6.out.keep hb)
  have U7 := Lib.hid (U6.out.keep hb)
  clear hb t0 t1
  unfold dval
  have K7b : Hid (((at_ two.slots b).toNat : Int) = ((at_ d.slots a).toNat : Int)) := Lib.hid (by rw [K7.out])
  obtain ⟨y, hy⟩ : ∃ y : Int, y = ((at_ d.slots a).toNat : Int) := ⟨_, rfl⟩
  have HY := Lib.hid hy
  have hS : ∀ w', Below w7.heap.size w7 w' → ((w'.cell? ⟨w.heap.size, 0, none⟩ = some (.int .u8 (d.depth.toNat : Int)) ∧ w'.cell? ⟨w.heap.size, 1, none⟩ = some (.slice (some ⟨bd, od, none⟩) n c)) ∧ (w'.cell? ⟨w1.heap.size, 0, none⟩ = some (.int .u8 (two.depth.toNat : Int)) ∧ w'.cell? ⟨w1.heap.size, 1, none⟩ = some (.slice (some ⟨gd, og, none⟩) n2 c2)) ∧ (w'.cell? ⟨w4.heap.size, 0, none⟩ = some (.int .u8 (d.depth.toNat : Int)) ∧ w'.cell? ⟨w4.heap.size, 1, none⟩ = some (.slice A4 n4 c4)) ∧ w'.cell? ⟨bd, od + a, none⟩ = some (.int .u16 y) ∧ w'.cell? ⟨gd, og + b, none⟩ = some (.int .u16 y)) := fun w' hb =>
    ⟨(S7.out.keep hb).cells, (T7.out.keep hb).cells, (U7.out.keep hb).cells, by rw [HY.out]; exact (S7.out.keep hb).rd.at' han, by rw [HY.out, ← K7b.out]; exact (T7.out.keep hb).rd.at' hbn⟩
  have HS := Lib.hid hS
  have HB := Lib.hid (Below.refl w7.heap.size w7)
  obtain ⟨⟨p0, p1⟩, ⟨p2, p3⟩, ⟨p4, p5⟩, p6, p7⟩ := hS w7 (Below.refl _ _)
  clear hS hy
  have ia0 : (0 : Int) ≤ (a : Int) := by omega
  have ia1 : (a : Int) < (n : Int) := by omega
  have ib0 : (0 : Int) ≤ (b : Int) := by omega
  have ib1 : (b : Int) < (n2 : Int) := by omega
  have hd2 : (b : Int) / 2 = (a : Int) := by have := Ke.out; omega
  have ha256 : a ≤ 512 := by omega
  have hg2 : n2 ≤ maxLen ∧ n4 ≤ maxLen := ⟨by simp only [maxLen]; omega, by omega⟩
  have hw2 := (wrap_small ha256).1
  have hw3 : IntKind.i64.wrap (a : Int) = (a : Int) := (wrap_small ha256).2
  have HG := Lib.hid (show n ≤ maxLen ∧ n2 ≤ maxLen ∧ n4 ≤ maxLen from ⟨hn, hg2.1, hg2.2⟩)
  go_upto_region 7 with fail
  go_cut [101] from 58 (fun s101 wx => s101 = .bool false ∧ Below w7.heap.size w7 wx)
  case first =>
    go_region_held3 (fun w' => (w'.cell? ⟨w.heap.size, 0, none⟩ = some (.int .u8 (d.depth.toNat : Int)) ∧ w'.cell? ⟨w.heap.size, 1, none⟩ = some (.slice (some ⟨bd, od, none⟩) n c)) ∧ (w'.cell? ⟨w1.heap.size, 0, none⟩ = some (.int .u8 (two.depth.toNat : Int)) ∧ w'.cell? ⟨w1.heap.size, 1, none⟩ = some (.slice (some ⟨gd, og, none⟩) n2 c2)) ∧ (w'.cell? ⟨w4.heap.size, 0, none⟩ = some (.int .u8 (d.depth.toNat : Int)) ∧ w'.cell? ⟨w4.heap.size, 1, none⟩ = some (.slice A4 n4 c4)) ∧ w'.cell? ⟨bd, od + a, none⟩ = some (.int .u16 y) ∧ w'.cell? ⟨gd, og + b, none⟩ = some (.int .u16 y))
      ((refine HS.out _ ?_; repeat' (first | exact HB.out | exact Below.refl _ _ | refine Below.drew ?_)))
      ((first
        | (go_at_call 17; refine (right_any two _ n2 c2 _ ((T7.out.keep (show Below w7.heap.size w7 _ from (by repeat' (first | exact HB.out | exact Below.refl _ _ | refine Below.drew ?_)))).rd) HG.out.2.1).mono ?_; rintro e w' ⟨rfl, hb⟩; rw [K6.out]; have HB := Lib.hid (show Below w7.heap.size w7 w' from below_then (by (repeat' (first | exact HB.out | exact Below.refl _ _ | refine Below.drew ?_))) hb (Nat.le_refl _)); clear hb)
        | (go_at_call 28; refine (same_any d d _ _ n4 n c4 c _ ((U7.out.keep (show Below w7.heap.size w7 _ from (by repeat' (first | exact HB.out | exact Below.refl _ _ | refine Below.drew ?_)))).rd) ((S7.out.keep (show Below w7.heap.size w7 _ from (by repeat' (first | exact HB.out | exact Below.refl _ _ | refine Below.drew ?_)))).rd) HG.out.2.2 HG.out.1).mono ?_; rintro e w' ⟨rfl, hb⟩; rw [K9.out]; have HB := Lib.hid (show Below w7.heap.size w7 w' from below_then (by (repeat' (first | exact HB.out | exact Below.refl _ _ | refine Below.drew ?_))) hb (Nat.le_refl _)); clear hb)))
    all_goals
      go_wp2_with fail
      go_meet
      case rel => exact ⟨rfl, by (repeat' (first | exact HB.out | exact Below.refl _ _ | refine Below.drew ?_))⟩
  case rest =>
    generalize wc = W8 at *
    obtain ⟨rfl, hb⟩ := hcut
    have B8 := Lib.hid (B7.out.trans (hb.mono B7.out.size))
    have S8 := Lib.hid (S7.out.keep hb)
    have T8 := Lib.hid (T7.out.keep hb)
    clear p0 p1 p2 p3 p4 p5 p6 p7 hb HS HB S7 T7 U7
    obtain ⟨a0, a1⟩ := S8.out.cells
    go_wp2_with fail
    rw [dval_eq]
    refine (depth_ok d _ n c D a k _ S8.out.rd K0.out Kg.out Kh.out Kc.out).mono ?_
    rintro e w9 ⟨rfl, hb⟩
    have B9 := Lib.hid (B8.out.trans (hb.mono B8.out.size))
    have T9 := Lib.hid (T8.out.keep hb)
    clear hb a0 a1
    obtain ⟨t0, t1⟩ := T9.out.cells
    go_wp2_with fail
    rw [dval_eq]
    refine (depth_ok two _ n2 c2 (D + 1) b k _ T9.out.rd K5.out Kf.out (Nat.le_succ_of_le Kh.out) K8.out).mono ?_
    rintro e w10 ⟨rfl, hb⟩
    have B10 := Lib.hid (B9.out.trans (hb.mono B9.out.size))
    clear hb t0 t1
    go_wp2_with fail
    refine (awake_any _).mono ?_
    rintro e w11 ⟨rfl, hb⟩
    have B11 := Lib.hid (B10.out.trans (hb.mono B10.out.size))
    go_wp2_with fail
    go_ret
    exact ⟨rfl, B11.out⟩

end Go.Proofs.Ytlkmcjjdjbdihaa
