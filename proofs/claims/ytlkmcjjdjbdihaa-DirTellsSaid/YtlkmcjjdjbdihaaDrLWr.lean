/-
  DirWrong: the walk where the directory is long, or not right.
-/
import Derived.Test.YtlkmcjjdjbdihaaDrWrP
namespace Go.Proofs.Ytlkmcjjdjbdihaa
open Go.RowKit Go.Maps
set_option linter.unusedVariables false
set_option linter.unusedSimpArgs false
attribute [local go_sem ↓] Go.wp_at_zero Go.wp_at_succ

def zeroD : Dir := ⟨0, []⟩
theorem same_zero (w : World) : Calls Try.prog 28 #[.agg #[.int .u8 0, .slice none 0 0], .agg #[.int .u8 0, .slice none 0 0]] w fun e w' => e = .returned (.bool true) ∧ Below w.heap.size w w' :=
  (same_any zeroD zeroD none none 0 0 0 0 w (ReadsW.nil _ _) (ReadsW.nil _ _) (by simp [maxLen]) (by simp [maxLen])).mono fun e w' h => h

theorem own_zero {w : World} {base n : Nat} {v : Value} {l : List Int} (h : w.ownsRow base 3 1 v n (icells l)) (h0 : n = 0) : ∃ A c, v = .slice A 0 c := by
  obtain ⟨A, c, e, _⟩ := own_readsI h
  exact ⟨A, c, by rw [e, h0]⟩

set_option maxHeartbeats 4000000 in
set_option maxRecDepth 100000 in
theorem wrong_long (d : Dir) (A : Option Addr) (n c : Nat) (a b : UInt8) (w : World) (h : ReadsW w A n d.slots) (hn : n ≤ maxLen) (h256 : 256 < n) :
    Calls Try.prog 8 #[dval d A n c, .int .u8 (a.toNat : Int), .int .u8 (b.toNat : Int)] w fun e w' => e = .returned (.bool true) ∧ Below w.heap.size w w' := by
  have hi : (256 : Int) < (n : Int) := by omega
  have hB : Hid (Below w.heap.size w (w.alloc (.cells #[.int .u8 (d.depth.toNat : Int), .slice A n c] 24))) := Lib.hid ((Below.refl _ w).alloc (Nat.le_refl _) _)
  clear h
  unfold dval
  go_enter Try.func8, Try.ntmps8
  go_wp2_with fail
  refine (awake_any _).mono ?_
  rintro e w4 ⟨rfl, hb⟩
  have B4 := Lib.hid (hB.out.trans (hb.mono hB.out.size))
  go_wp2_with fail
  go_ret
  exact ⟨rfl, B4.out⟩

set_option maxHeartbeats 8000000 in
set_option maxRecDepth 100000 in
theorem wrong_bad (d : Dir) (A : Option Addr) (n c : Nat) (a b : UInt8) (w : World) (h : ReadsW w A n d.slots) (h256 : n ≤ 256) (hr : rightB d = false) :
    Calls Try.prog 8 #[dval d A n c, .int .u8 (a.toNat : Int), .int .u8 (b.toNat : Int)] w fun e w' => e = .returned (.bool true) ∧ Below w.heap.size w w' := by
  have hn : n ≤ maxLen := by simp only [maxLen]; omega
  have K1 := Lib.hid hr
  have K2 : Hid (bucketE d (a.toNat : Int) = 170) := Lib.hid (by unfold bucketE; rw [hr]; rfl)
  have K3 : Hid ((bucketL d (a.toNat : Int)).length = 0) := Lib.hid (by unfold bucketL; rw [slotsR_length]; unfold bucketR; rw [if_neg (by rw [hr]; simp)]; rfl)
  have K4 : Hid (pointE d (a.toNat : Int) (b.toNat : Int) 5 = 170) := Lib.hid (by unfold pointE; rw [hr]; rfl)
  have K5 : Hid (doubleE d = 170) := Lib.hid (by unfold doubleE; rw [hr]; rfl)
  have K6 : Hid (halveE d = 170) := Lib.hid (by unfold halveE; rw [hr]; rfl)
  have hi : ¬ (256 : Int) < (n : Int) := by omega
  clear hr
  have HR := Lib.hid h; clear h
  obtain ⟨W0, hW0⟩ : ∃ W0 : World, W0 = w.alloc (.cells #[.int .u8 (d.depth.toNat : Int), .slice A n c] 24) := ⟨_, rfl⟩
  have B0 : Hid (Below w.heap.size w W0) := Lib.hid (by rw [hW0]; exact (Below.refl _ w).alloc (Nat.le_refl _) _)
  have S0 : Hid (BoxD W0 w.heap.size d A n c) := Lib.hid (by rw [hW0]; exact BoxD.new w d A n c HR.out)
  have HW := Lib.hid hW0; clear hW0
  obtain ⟨a0, a1⟩ := S0.out.cells
  have lx := UInt8.toNat_lt a
  have ly := UInt8.toNat_lt b
  generalize a.toNat = x at *
  generalize b.toNat = y at *
  unfold dval
  go_enter Try.func8, Try.ntmps8
  go_upto_region 1 with fail
  rw [← HW.out]
  clear HW
  go_wp2_with fail
  rw [dval_eq]
  refine (right_any d A n c _ S0.out.rd hn).mono ?_
  rintro e w1 ⟨rfl, hb⟩
  rw [K1.out]
  have B1 := Lib.hid (B0.out.trans (hb.mono B0.out.size))
  have S1 := Lib.hid (S0.out.keep hb)
  clear hb a0 a1
  obtain ⟨a0, a1⟩ := S1.out.cells
  unfold dval
  go_wp2_with fail
  rw [dval_eq]
  refine (at_any d A n c 5 _ S1.out.rd hn).mono ?_
  rintro e w2 ⟨rfl, hb⟩
  rw [K1.out, if_neg (by decide), if_neg (by decide)]
  have B2 := Lib.hid (B1.out.trans (hb.mono B1.out.size))
  have S2 := Lib.hid (S1.out.keep hb)
  clear hb a0 a1
  obtain ⟨a0, a1⟩ := S2.out.cells
  unfold dval
  go_wp2_with fail
  rw [dval_eq]
  refine (Bucket_any d A n c x _ S2.out.rd hn).mono ?_
  rintro e w3 ⟨v, rfl, hown, hb⟩
  obtain ⟨A3, c3, rfl⟩ := own_zero hown K3.out
  rw [K2.out]
  have B3 := Lib.hid (B2.out.trans (hb.mono B2.out.size))
  have S3 := Lib.hid (S2.out.keep hb)
  clear hb a0 a1 hown
  obtain ⟨a0, a1⟩ := S3.out.cells
  unfold dval
  go_wp2_with fail
  rw [dval_eq]
  refine (depth_bad d A n c x _ S3.out.rd hn (by rw [K2.out]; decide)).mono ?_
  rintro e w4 ⟨rfl, hb⟩
  rw [K2.out]
  have B4 := Lib.hid (B3.out.trans (hb.mono B3.out.size))
  have S4 := Lib.hid (S3.out.keep hb)
  clear hb a0 a1
  obtain ⟨a0, a1⟩ := S4.out.cells
  unfold dval
  go_wp2_with fail
  rw [dval_eq]
  refine (point_any d A n c x y 5 _ S4.out.rd hn).mono ?_
  rintro e w5 hD
  rw [K4.out] at hD
  obtain ⟨rfl, hb⟩ := retd_none hD (by decide)
  have B5 := Lib.hid (B4.out.trans (hb.mono B4.out.size))
  have S5 := Lib.hid (S4.out.keep hb)
  clear hb a0 a1 hD
  obtain ⟨V8, hV⟩ : ∃ W : World, W = w5.alloc (.cells #[.int .u8 0, .slice none 0 0] 24) := ⟨_, rfl⟩
  have bV : Below w5.heap.size w5 V8 := by rw [hV]; exact (Below.refl _ _).alloc (Nat.le_refl _) _
  have qV : MemC V8 w5.heap.size 0 [.int .u8 0, .slice none 0 0] := by rw [hV]; exact MemC.new w5 [.int .u8 0, .slice none 0 0] 24
  have P0 := Lib.hid qV
  have BV8 := Lib.hid (B5.out.trans (bV.mono B5.out.size))
  have SV8 := Lib.hid (S5.out.keep bV)
  have HW := Lib.hid hV
  clear bV qV hV
  unfold dzero
  go_upto_region 8 with fail
  rw [← HW.out]
  clear HW
  obtain ⟨a0, a1⟩ := SV8.out.cells
  go_wp2_with fail
  rw [dval_eq]
  refine (double_any d A n c _ SV8.out.rd hn).mono ?_
  rintro e w6 hD
  rw [K5.out] at hD
  obtain ⟨rfl, hb⟩ := retd_none hD (by decide)
  have B6 := Lib.hid (BV8.out.trans (hb.mono BV8.out.size))
  have S6 := Lib.hid (SV8.out.keep hb)
  have P1 := Lib.hid (P0.out.keep hb)
  clear hb a0 a1 hD
  obtain ⟨V9, hV⟩ : ∃ W : World, W = w6.alloc (.cells #[.int .u8 0, .slice none 0 0] 24) := ⟨_, rfl⟩
  have bV : Below w6.heap.size w6 V9 := by rw [hV]; exact (Below.refl _ _).alloc (Nat.le_refl _) _
  have qV : MemC V9 w6.heap.size 0 [.int .u8 0, .slice none 0 0] := by rw [hV]; exact MemC.new w6 [.int .u8 0, .slice none 0 0] 24
  have Q0 := Lib.hid qV
  have BV9 := Lib.hid (B6.out.trans (bV.mono B6.out.size))
  have SV9 := Lib.hid (S6.out.keep bV)
  have P2 := Lib.hid (P1.out.keep bV)
  have HW := Lib.hid hV
  clear bV qV hV
  unfold dzero
  go_upto_region 9 with fail
  rw [← HW.out]
  clear HW
  obtain ⟨a0, a1⟩ := SV9.out.cells
  go_wp2_with fail
  rw [dval_eq]
  refine (halve_any d A n c _ SV9.out.rd hn).mono ?_
  rintro e w7 hD
  rw [K6.out] at hD
  obtain ⟨rfl, hb⟩ := retd_none hD (by decide)
  have B7 := Lib.hid (BV9.out.trans (hb.mono BV9.out.size))
  have S7 := Lib.hid (SV9.out.keep hb)
  have P3 := Lib.hid (P2.out.keep hb)
  have Q1 := Lib.hid (Q0.out.keep hb)
  clear hb a0 a1 hD
  obtain ⟨V10, hV⟩ : ∃ W : World, W = w7.alloc (.cells #[.int .u8 0, .slice none 0 0] 24) := ⟨_, rfl⟩
  have bV : Below w7.heap.size w7 V10 := by rw [hV]; exact (Below.refl _ _).alloc (Nat.le_refl _) _
  have qV : MemC V10 w7.heap.size 0 [.int .u8 0, .slice none 0 0] := by rw [hV]; exact MemC.new w7 [.int .u8 0, .slice none 0 0] 24
  have Z0 := Lib.hid qV
  have BV10 := Lib.hid (B7.out.trans (bV.mono B7.out.size))
  have SV10 := Lib.hid (S7.out.keep bV)
  have P4 := Lib.hid (P3.out.keep bV)
  have Q2 := Lib.hid (Q1.out.keep bV)
  have HW := Lib.hid hV
  clear bV qV hV
  unfold dzero
  go_upto_region 10 with fail
  rw [← HW.out]
  clear HW
  obtain ⟨p0, _⟩ := P4.out.get 0 _ rfl
  obtain ⟨p1, _⟩ := P4.out.get 1 _ rfl
  obtain ⟨q0, _⟩ := Q2.out.get 0 _ rfl
  obtain ⟨q1, _⟩ := Q2.out.get 1 _ rfl
  obtain ⟨z0, _⟩ := Z0.out.get 0 _ rfl
  obtain ⟨z1, _⟩ := Z0.out.get 1 _ rfl
  go_wp2_with fail
  refine (same_zero _).mono ?_
  rintro e u1 ⟨rfl, hb1⟩
  have C1 := Lib.hid (BV10.out.trans (hb1.mono BV10.out.size))
  have hq := Q2.out.keep hb1
  have hp := P4.out.keep hb1
  have hz := Z0.out.keep hb1
  have Q3 := Lib.hid hq
  have P5 := Lib.hid hp
  have Z1 := Lib.hid hz
  clear hq hp hz hb1 p0 p1 q0 q1 z0 z1
  obtain ⟨p0, _⟩ := P5.out.get 0 _ rfl
  obtain ⟨p1, _⟩ := P5.out.get 1 _ rfl
  obtain ⟨q0, _⟩ := Q3.out.get 0 _ rfl
  obtain ⟨q1, _⟩ := Q3.out.get 1 _ rfl
  go_wp2_with fail
  refine (same_zero _).mono ?_
  rintro e u2 ⟨rfl, hb1⟩
  have C2 := Lib.hid (C1.out.trans (hb1.mono C1.out.size))
  have hp := P5.out.keep hb1
  have hz := Z1.out.keep hb1
  clear p0 p1 q0 q1
  obtain ⟨p0, _⟩ := hp.get 0 _ rfl
  obtain ⟨p1, _⟩ := hp.get 1 _ rfl
  obtain ⟨z0, _⟩ := hz.get 0 _ rfl
  obtain ⟨z1, _⟩ := hz.get 1 _ rfl
  clear hp hz hb1
  go_wp2_with fail
  refine (same_zero _).mono ?_
  rintro e u3 ⟨rfl, hb1⟩
  have C3 := Lib.hid (C2.out.trans (hb1.mono C2.out.size))
  clear hb1 p0 p1 z0 z1
  go_wp2_with fail
  refine (awake_any _).mono ?_
  rintro e u4 ⟨rfl, hb1⟩
  have C4 := Lib.hid (C3.out.trans (hb1.mono C3.out.size))
  clear hb1
  go_wp2_with fail
  go_ret
  exact ⟨rfl, C4.out⟩

end Go.Proofs.Ytlkmcjjdjbdihaa
