/-
  catchmentlaw17.of, same, awake.
-/
import Derived.Test.YtlkmcjjdjbdihaaDrI
namespace Go.Proofs.Ytlkmcjjdjbdihaa
open Go.RowKit Go.Maps
set_option linter.unusedVariables false
set_option linter.unusedSimpArgs false
attribute [local go_sem ↓] Go.wp_at_zero Go.wp_at_succ

theorem dir_eq {a b : Dir} (h1 : a.depth = b.depth) (h2 : a.slots = b.slots) : a = b := by
  obtain ⟨x, y⟩ := a
  obtain ⟨x', y'⟩ := b
  dsimp only at h1 h2
  rw [h1, h2]

theorem of_any (d : Dir) (D : Int) (hD : (d.depth.toNat : Int) = D) (A : Option Addr) (n c : Nat) (w : World) : Calls Try.prog 11 #[.int .u8 D, .slice A n c] w fun e w' => e = .returned (dval d A n c) ∧ Below w.heap.size w w' := by
  unfold dval
  rw [hD]
  go_enter Try.func11, Try.ntmps11
  go_wp2
  refine bodyPost_ret (v := .agg #[.int .u8 D, .slice A n c]) (by simp [results, Try.results11, go_sem]) rfl ⟨rfl, ?_⟩
  exact (Below.refl _ w).alloc (Nat.le_refl _) _

def sameD (a b : Dir) : Bool := decide (a.depth = b.depth) && sameW a.slots b.slots
theorem sameD_iff {a b : Dir} : sameD a b = true ↔ a = b := by
  unfold sameD
  rw [Bool.and_eq_true, decide_eq_true_eq, sameW_iff]
  exact ⟨fun h => dir_eq h.1 h.2, fun h => by rw [h]; exact ⟨rfl, rfl⟩⟩

set_option maxHeartbeats 1000000 in
theorem same_any (d k : Dir) (A B : Option Addr) (n m c e : Nat) (w : World) (h : ReadsW w A n d.slots) (g : ReadsW w B m k.slots) (hn : n ≤ maxLen) (hm : m ≤ maxLen) :
    Calls Try.prog 28 #[dval d A n c, dval k B m e] w fun e w' => e = .returned (.bool (sameD d k)) ∧ Below w.heap.size w w' := by
  have HD := Lib.hid h; clear h
  have HK := Lib.hid g; clear g
  have b0 : Below w.heap.size w ((w.alloc (.cells #[.int .u8 (d.depth.toNat : Int), .slice A n c] 24)).alloc (.cells #[.int .u8 (k.depth.toNat : Int), .slice B m e] 24)) := ((Below.refl _ w).alloc (Nat.le_refl _) _).alloc (by simp) _
  have B0 := Lib.hid b0; clear b0
  unfold dval
  unfold sameD
  by_cases he : d.depth = k.depth
  · rw [decide_eq_true he, Bool.true_and]
    rw [he] at B0 ⊢
    generalize (k.depth.toNat : Int) = D at *
    have hDD : (D == D) = true := by simp
    go_enter Try.func28, Try.ntmps28
    go_wp2_with fail
    refine (eqwords_any A B n m c e d.slots k.slots _ (HD.out.keep B0.out) (HK.out.keep B0.out) hn hm).mono ?_
    rintro e' w' ⟨rfl, hq⟩
    have B1 := Lib.hid (B0.out.trans (hq.below.mono B0.out.size)); clear hq
    go_wp2_with fail
    go_ret
    exact ⟨rfl, B1.out⟩
  · rw [decide_eq_false he, Bool.false_and]
    have hne : ((d.depth.toNat : Int) == (k.depth.toNat : Int)) = false := beq_eq_false_iff_ne.2 (fun e => he (UInt8.toNat_inj.1 (by omega)))
    generalize (k.depth.toNat : Int) = D at *
    generalize (d.depth.toNat : Int) = D' at *
    go_enter Try.func28, Try.ntmps28
    go_wp2_with fail
    go_ret
    exact ⟨rfl, B0.out⟩

theorem dval_cells (X : World) (d : Dir) (A : Option Addr) (n c : Nat) (t : TypeId) : X.alloc (.cells (dval d A n c).cells t) = X.alloc (.cells #[.int .u8 (d.depth.toNat : Int), .slice A n c] t) := rfl
theorem below_then {B : Nat} {a b c : World} (h : Below B a b) (g : Below b.heap.size b c) (hB : B ≤ a.heap.size) : Below B a c := h.trans (g.mono (Nat.le_trans hB h.size))
theorem of_lit (d : Dir) (D : Int) (hD : (d.depth.toNat : Int) = D) (A : Option Addr) (n c : Nat) (w : World) (h : ReadsW w A n d.slots) : Calls Try.prog 11 #[.int .u8 D, .slice A n c] w fun e w' => e = .returned (dval d A n c) ∧ ReadsW w' A n d.slots ∧ Below w.heap.size w w' :=
  (of_any d D hD A n c w).mono fun e w' ⟨h1, h2⟩ => ⟨h1, h.keep h2, h2⟩
theorem litW (W : World) (l : List UInt16) : ReadsW (W.alloc (.cells (wcells l).toArray 26)) (some ⟨W.heap.size, 0, none⟩) l.length l := (MemC.new W (wcells l) _).readsW
theorem litI (W : World) (l : List Int) : ReadsI (W.alloc (.cells (icells l).toArray 3)) (some ⟨W.heap.size, 0, none⟩) l.length l := ⟨rfl, (MemC.new W (icells l) _).cells⟩

theorem fits_dec {l : List UInt16} {D s k : Nat} (h : (List.range (2 ^ D)).all (fun i => decide (at_ l i = at_ l s ↔ i / 2 ^ (D - k) = s / 2 ^ (D - k))) = true) : Fits l D s k := fun i hi => by
  have := List.all_eq_true.1 h i (List.mem_range.2 hi)
  exact of_decide_eq_true this

/-- A directory that came of a call, in a variable of its own. -/
theorem retd_box {w w' : World} {d : Dir} {e : Ending} (h : RetD w w' d 0 e) : ∃ A n c, e = .returned (.tuple #[dval d A n c, .int .i64 0]) ∧ ReadsW w' A n d.slots ∧ n ≤ c ∧ c ≤ maxLen ∧ Below w.heap.size w w' := by
  rcases h with ⟨_, v, rfl, g, c, rfl, _, hm, h1, h2, hb⟩ | ⟨h0, _⟩
  · exact ⟨_, _, c, rfl, hm.readsW, h1, h2, hb⟩
  · exact absurd rfl h0
theorem retd_none {w w' : World} {d : Dir} {E : Int} {e : Ending} (h : RetD w w' d E e) (hE : E ≠ 0) : e = .returned (.tuple #[dzero, .int .i64 E]) ∧ Below w.heap.size w w' := by
  rcases h with ⟨h0, _⟩ | ⟨_, h1, h2⟩
  · exact absurd h0 hE
  · exact ⟨h1, h2⟩

set_option maxHeartbeats 8000000 in
set_option maxRecDepth 100000 in
theorem awake_any (w : World) : Calls Try.prog 10 #[] w fun e w' => e = .returned (.bool true) ∧ Below w.heap.size w w' := by
  obtain ⟨one, hone⟩ : ∃ d : Dir, d = ⟨0, [5]⟩ := ⟨_, rfl⟩
  obtain ⟨two, htwo⟩ : ∃ d : Dir, d = ⟨1, [5, 5]⟩ := ⟨_, rfl⟩
  obtain ⟨spl, hspl⟩ : ∃ d : Dir, d = ⟨1, [5, 6]⟩ := ⟨_, rfl⟩
  obtain ⟨four, hfour⟩ : ∃ d : Dir, d = ⟨2, [5, 5, 6, 6]⟩ := ⟨_, rfl⟩
  obtain ⟨all, hall⟩ : ∃ d : Dir, d = ⟨2, [5, 5, 5, 5]⟩ := ⟨_, rfl⟩
  have K1 : Hid (doubleE one = 0) := Lib.hid (by subst hone; decide +kernel)
  have K2 : Hid (doubleD one = two) := Lib.hid (by subst hone htwo; exact dir_eq (by decide +kernel) (by decide +kernel))
  have K3 : Hid (pointE two 1 1 6 = 0) := Lib.hid (by subst htwo; decide +kernel)
  have K4 : Hid (pointD two 1 1 6 = spl) := Lib.hid (by subst htwo hspl; exact dir_eq (by decide +kernel) (by decide +kernel))
  have K5 : Hid (doubleE spl = 0) := Lib.hid (by subst hspl; decide +kernel)
  have K6 : Hid (doubleD spl = four) := Lib.hid (by subst hspl hfour; exact dir_eq (by decide +kernel) (by decide +kernel))
  have K7 : Hid (halveE four = 0) := Lib.hid (by subst hfour; decide +kernel)
  have K8 : Hid (halveD four = spl) := Lib.hid (by subst hspl hfour; exact dir_eq (by decide +kernel) (by decide +kernel))
  have K9 : Hid (halveE spl = 171) := Lib.hid (by subst hspl; decide +kernel)
  have Ka : Hid (rightB four = true) := Lib.hid (by subst hfour; decide +kernel)
  have Kb : Hid (slotOf four.depth.toNat 9223372036854775808 = 2) := Lib.hid (by subst hfour; decide +kernel)
  have Kc : Hid (bucketE four 3 = 0) := Lib.hid (by subst hfour; decide +kernel)
  have Kd : Hid (bucketL four 3 = [2, 3]) := Lib.hid (by subst hfour; decide +kernel)
  have Ke : Hid (RightD spl 1) := Lib.hid (by subst hspl; have := rightB_iff.1 (show rightB ⟨1, [5, 6]⟩ = true by decide +kernel); exact this)
  have Kf : Hid (Fits spl.slots 1 0 1) := Lib.hid (by subst hspl; exact fits_dec (by decide +kernel))
  have Kg : Hid (pointE all 3 2 6 = 171) := Lib.hid (by subst hall; decide +kernel)
  have Kh : Hid (one.slots = [5]) := Lib.hid (by subst hone; rfl)
  have Ki : Hid (all.slots = [5, 5, 5, 5]) := Lib.hid (by subst hall; rfl)
  have Kj : Hid (sameD two ⟨1, [5, 5]⟩ = true) := Lib.hid (by subst htwo; decide +kernel)
  have Kk : Hid (sameD spl ⟨1, [5, 6]⟩ = true) := Lib.hid (by subst hspl; decide +kernel)
  have Kl : Hid (sameD four ⟨2, [5, 5, 6, 6]⟩ = true) := Lib.hid (by subst hfour; decide +kernel)
  have Km : Hid (sameD spl spl = true) := Lib.hid (by subst hspl; decide +kernel)
  have Kn : Hid (one.depth.toNat = 0) := Lib.hid (by subst hone; rfl)
  have Ko : Hid (all.depth.toNat = 2) := Lib.hid (by subst hall; rfl)
  clear hone htwo hspl hfour hall
  go_enter Try.func10, Try.ntmps10
  go_wp2_with fail
  refine (of_any one 0 (by rw [Kn.out]; rfl) _ 1 1 _).mono ?_
  rintro e w1 ⟨rfl, hb⟩
  have R1 := Lib.hid (show ReadsW w1 (some ⟨w.heap.size, 0, none⟩) 1 one.slots by rw [Kh.out]; exact (litW w [5]).keep hb)
  have B1 := Lib.hid (((Below.refl w.heap.size w).alloc (Nat.le_refl _) (.cells #[.int .u16 5] 26)).trans (hb.mono (by simp)))
  clear hb
  go_wp2_with fail
  refine (double_any one _ 1 1 _ R1.out (by simp [maxLen])).mono ?_
  rintro e w2 hD
  rw [K1.out, K2.out] at hD
  obtain ⟨A2, n2, c2, rfl, r2, h2, hm2, hb⟩ := retd_box hD
  have B2 := Lib.hid (B1.out.trans (hb.mono B1.out.size))
  clear hD hb
  obtain ⟨V1, hV1⟩ : ∃ W : World, W = w2.alloc (.cells #[.int .u8 (two.depth.toNat : Int), .slice A2 n2 c2] 24) := ⟨_, rfl⟩
  have bV1 : Below w2.heap.size w2 V1 := by rw [hV1]; exact (Below.refl _ _).alloc (Nat.le_refl _) _
  have Xtwo_1 : Hid (BoxD V1 w2.heap.size two A2 n2 c2) := Lib.hid (by rw [hV1]; exact BoxD.new w2 two A2 n2 c2 r2)
  have BV1 := Lib.hid (B2.out.trans (bV1.mono B2.out.size))
  have HWV1 := Lib.hid hV1
  clear hV1 bV1
  unfold dval
  go_upto_region 2 with fail
  rw [← HWV1.out]
  clear HWV1
  obtain ⟨a0, a1⟩ := Xtwo_1.out.cells
  go_wp2_with fail
  rw [dval_eq]
  refine (point_any two A2 n2 c2 1 1 6 _ Xtwo_1.out.rd (by omega)).mono ?_
  rintro e w5 hD
  rw [K3.out, K4.out] at hD
  obtain ⟨A5, n5, c5, rfl, r5, h5, hm5, hb⟩ := retd_box hD
  have B5 := Lib.hid (BV1.out.trans (hb.mono BV1.out.size))
  have Xtwo_c2 := Lib.hid (Xtwo_1.out.keep hb)
  clear hD hb a0 a1
  obtain ⟨V2, hV2⟩ : ∃ W : World, W = w5.alloc (.cells #[.int .u8 (spl.depth.toNat : Int), .slice A5 n5 c5] 24) := ⟨_, rfl⟩
  have bV2 : Below w5.heap.size w5 V2 := by rw [hV2]; exact (Below.refl _ _).alloc (Nat.le_refl _) _
  have Xspl_2 : Hid (BoxD V2 w5.heap.size spl A5 n5 c5) := Lib.hid (by rw [hV2]; exact BoxD.new w5 spl A5 n5 c5 r5)
  have BV2 := Lib.hid (B5.out.trans (bV2.mono B5.out.size))
  have Xtwo_r2 := Lib.hid (Xtwo_c2.out.keep bV2)
  have HWV2 := Lib.hid hV2
  clear hV2 bV2
  unfold dval
  go_upto_region 3 with fail
  rw [← HWV2.out]
  clear HWV2
  obtain ⟨a0, a1⟩ := Xspl_2.out.cells
  go_wp2_with fail
  rw [dval_eq]
  refine (double_any spl A5 n5 c5 _ Xspl_2.out.rd (by omega)).mono ?_
  rintro e w7 hD
  rw [K5.out, K6.out] at hD
  obtain ⟨A7, n7, c7, rfl, r7, h7, hm7, hb⟩ := retd_box hD
  have B7 := Lib.hid (BV2.out.trans (hb.mono BV2.out.size))
  have Xtwo_c3 := Lib.hid (Xtwo_r2.out.keep hb)
  have Xspl_c3 := Lib.hid (Xspl_2.out.keep hb)
  clear hD hb a0 a1
  obtain ⟨V3, hV3⟩ : ∃ W : World, W = w7.alloc (.cells #[.int .u8 (four.depth.toNat : Int), .slice A7 n7 c7] 24) := ⟨_, rfl⟩
  have bV3 : Below w7.heap.size w7 V3 := by rw [hV3]; exact (Below.refl _ _).alloc (Nat.le_refl _) _
  have Xfour_3 : Hid (BoxD V3 w7.heap.size four A7 n7 c7) := Lib.hid (by rw [hV3]; exact BoxD.new w7 four A7 n7 c7 r7)
  have BV3 := Lib.hid (B7.out.trans (bV3.mono B7.out.size))
  have Xtwo_r3 := Lib.hid (Xtwo_c3.out.keep bV3)
  have Xspl_r3 := Lib.hid (Xspl_c3.out.keep bV3)
  have HWV3 := Lib.hid hV3
  clear hV3 bV3
  unfold dval
  go_upto_region 4 with fail
  rw [← HWV3.out]
  clear HWV3
  obtain ⟨a0, a1⟩ := Xfour_3.out.cells
  go_wp2_with fail
  rw [dval_eq]
  refine (halve_any four A7 n7 c7 _ Xfour_3.out.rd (by omega)).mono ?_
  rintro e w9 hD
  rw [K7.out, K8.out] at hD
  obtain ⟨A9, n9, c9, rfl, r9, h9, hm9, hb⟩ := retd_box hD
  have B9 := Lib.hid (BV3.out.trans (hb.mono BV3.out.size))
  have Xtwo_c4 := Lib.hid (Xtwo_r3.out.keep hb)
  have Xspl_c4 := Lib.hid (Xspl_r3.out.keep hb)
  have Xfour_c4 := Lib.hid (Xfour_3.out.keep hb)
  clear hD hb a0 a1
  obtain ⟨V4, hV4⟩ : ∃ W : World, W = w9.alloc (.cells #[.int .u8 (spl.depth.toNat : Int), .slice A9 n9 c9] 24) := ⟨_, rfl⟩
  have bV4 : Below w9.heap.size w9 V4 := by rw [hV4]; exact (Below.refl _ _).alloc (Nat.le_refl _) _
  have Xback_4 : Hid (BoxD V4 w9.heap.size spl A9 n9 c9) := Lib.hid (by rw [hV4]; exact BoxD.new w9 spl A9 n9 c9 r9)
  have BV4 := Lib.hid (B9.out.trans (bV4.mono B9.out.size))
  have Xtwo_r4 := Lib.hid (Xtwo_c4.out.keep bV4)
  have Xspl_r4 := Lib.hid (Xspl_c4.out.keep bV4)
  have Xfour_r4 := Lib.hid (Xfour_c4.out.keep bV4)
  have HWV4 := Lib.hid hV4
  clear hV4 bV4
  unfold dval
  go_upto_region 5 with fail
  rw [← HWV4.out]
  clear HWV4
  obtain ⟨a0, a1⟩ := Xback_4.out.cells
  go_wp2_with fail
  rw [dval_eq]
  refine (halve_any spl A9 n9 c9 _ Xback_4.out.rd (by omega)).mono ?_
  rintro e w11 hD
  rw [K9.out] at hD
  obtain ⟨rfl, hb⟩ := retd_none hD (by decide)
  have B11 := Lib.hid (BV4.out.trans (hb.mono BV4.out.size))
  have Xtwo_c5 := Lib.hid (Xtwo_r4.out.keep hb)
  have Xspl_c5 := Lib.hid (Xspl_r4.out.keep hb)
  have Xfour_c5 := Lib.hid (Xfour_r4.out.keep hb)
  have Xback_c5 := Lib.hid (Xback_4.out.keep hb)
  clear hD hb a0 a1
  obtain ⟨V5, hV5⟩ : ∃ W : World, W = w11.alloc (.cells #[.int .u8 0, .slice none 0 0] 24) := ⟨_, rfl⟩
  have bV5 : Below w11.heap.size w11 V5 := by rw [hV5]; exact (Below.refl _ _).alloc (Nat.le_refl _) _
  have BV5 := Lib.hid (B11.out.trans (bV5.mono B11.out.size))
  have Xtwo_r5 := Lib.hid (Xtwo_c5.out.keep bV5)
  have Xspl_r5 := Lib.hid (Xspl_c5.out.keep bV5)
  have Xfour_r5 := Lib.hid (Xfour_c5.out.keep bV5)
  have Xback_r5 := Lib.hid (Xback_c5.out.keep bV5)
  have HWV5 := Lib.hid hV5
  clear hV5 bV5
  unfold dzero
  go_upto_region 6 with fail
  rw [← HWV5.out]
  clear HWV5
  obtain ⟨a0, a1⟩ := Xfour_r5.out.cells
  go_wp2_with fail
  rw [dval_eq]
  refine (at_any four A7 n7 c7 9223372036854775808 _ Xfour_r5.out.rd (by omega)).mono ?_
  rintro e w60 ⟨rfl, hb⟩
  rw [Ka.out, Kb.out, if_pos rfl, if_pos rfl]
  have B60 := Lib.hid (BV5.out.trans (hb.mono BV5.out.size))
  have Xtwo_c6 := Lib.hid (Xtwo_r5.out.keep hb)
  have Xspl_c6 := Lib.hid (Xspl_r5.out.keep hb)
  have Xfour_c6 := Lib.hid (Xfour_r5.out.keep hb)
  have Xback_c6 := Lib.hid (Xback_r5.out.keep hb)
  clear hb
  clear a0 a1
  obtain ⟨a0, a1⟩ := Xfour_c6.out.cells
  unfold dval
  go_wp2_with fail
  rw [dval_eq]
  refine (Bucket_any four A7 n7 c7 3 _ Xfour_c6.out.rd (by omega)).mono ?_
  rintro e w70 ⟨v, rfl, hown, hb⟩
  rw [Kc.out]
  rw [Kd.out] at hown
  obtain ⟨A70, c70, rfl, r70, _, _⟩ := own_readsI hown
  have B70 := Lib.hid (B60.out.trans (hb.mono B60.out.size))
  have Xtwo_c7 := Lib.hid (Xtwo_c6.out.keep hb)
  have Xspl_c7 := Lib.hid (Xspl_c6.out.keep hb)
  have Xfour_c7 := Lib.hid (Xfour_c6.out.keep hb)
  have Xback_c7 := Lib.hid (Xback_c6.out.keep hb)
  have L70 := Lib.hid r70
  clear hown r70
  clear hb
  clear a0 a1
  obtain ⟨a0, a1⟩ := Xspl_c7.out.cells
  unfold dval
  go_wp2_with fail
  rw [dval_eq]
  refine (depth_ok spl A5 n5 c5 1 0 1 _ Xspl_c7.out.rd Ke.out (by decide) (by decide) Kf.out).mono ?_
  rintro e w80 ⟨rfl, hb⟩
  have B80 := Lib.hid (B70.out.trans (hb.mono B70.out.size))
  have Xtwo_c8 := Lib.hid (Xtwo_c7.out.keep hb)
  have Xspl_c8 := Lib.hid (Xspl_c7.out.keep hb)
  have Xfour_c8 := Lib.hid (Xfour_c7.out.keep hb)
  have Xback_c8 := Lib.hid (Xback_c7.out.keep hb)
  have L70_c8 := Lib.hid (L70.out.keep hb)
  clear hb
  clear a0 a1
  unfold dval
  go_wp2_with fail
  have b90 : Below w80.heap.size w80 (w80.alloc (.cells #[.int .u16 5, .int .u16 5, .int .u16 5, .int .u16 5] 26)) := (Below.refl _ _).alloc (Nat.le_refl _) _
  refine (of_any all 2 (by rw [Ko.out]; rfl) _ 4 4 _).mono ?_
  rintro e w90 ⟨rfl, hb9⟩
  have hb := b90.trans (hb9.mono b90.size)
  have R90 := Lib.hid (show ReadsW w90 (some ⟨w80.heap.size, 0, none⟩) 4 all.slots by rw [Ki.out]; exact (litW w80 [5, 5, 5, 5]).keep hb9)
  clear b90 hb9
  have B90 := Lib.hid (B80.out.trans (hb.mono B80.out.size))
  have Xtwo_c9 := Lib.hid (Xtwo_c8.out.keep hb)
  have Xspl_c9 := Lib.hid (Xspl_c8.out.keep hb)
  have Xfour_c9 := Lib.hid (Xfour_c8.out.keep hb)
  have Xback_c9 := Lib.hid (Xback_c8.out.keep hb)
  have L70_c9 := Lib.hid (L70_c8.out.keep hb)
  clear hb
  go_wp2_with fail
  refine (point_any all _ 4 4 3 2 6 _ R90.out (by simp [maxLen])).mono ?_
  rintro e w95 hD
  rw [Kg.out] at hD
  obtain ⟨rfl, hb⟩ := retd_none hD (by decide)
  clear hD
  have B95 := Lib.hid (B90.out.trans (hb.mono B90.out.size))
  have Xtwo_c95 := Lib.hid (Xtwo_c9.out.keep hb)
  have Xspl_c95 := Lib.hid (Xspl_c9.out.keep hb)
  have Xfour_c95 := Lib.hid (Xfour_c9.out.keep hb)
  have Xback_c95 := Lib.hid (Xback_c9.out.keep hb)
  have L70_c95 := Lib.hid (L70_c9.out.keep hb)
  clear hb
  obtain ⟨V9, hV9⟩ : ∃ W : World, W = w95.alloc (.cells #[.int .u8 0, .slice none 0 0] 24) := ⟨_, rfl⟩
  have bV9 : Below w95.heap.size w95 V9 := by rw [hV9]; exact (Below.refl _ _).alloc (Nat.le_refl _) _
  have BV9 := Lib.hid (B95.out.trans (bV9.mono B95.out.size))
  have Xtwo_r9 := Lib.hid (Xtwo_c95.out.keep bV9)
  have Xspl_r9 := Lib.hid (Xspl_c95.out.keep bV9)
  have Xfour_r9 := Lib.hid (Xfour_c95.out.keep bV9)
  have Xback_r9 := Lib.hid (Xback_c95.out.keep bV9)
  have L70_r9 := Lib.hid (L70_c95.out.keep bV9)
  have HWV9 := Lib.hid hV9
  clear hV9 bV9
  unfold dzero
  unfold dval
  go_upto_region 10 with fail
  rw [← HWV9.out]
  clear HWV9
  go_wp2_with fail
  refine (buddy_ok 3 1 2 _ (by decide) (by decide) (by decide) (by decide)).mono ?_
  rintro e w120 ⟨rfl, hb⟩
  rw [show ((3 / 2 ^ (2 - 1) * 2 ^ (2 - 1) ^^^ 2 ^ (2 - 1) : Nat) : Int) = 0 by decide]
  have B120 := Lib.hid (BV9.out.trans (hb.mono BV9.out.size))
  have Xtwo_c12 := Lib.hid (Xtwo_r9.out.keep hb)
  have Xspl_c12 := Lib.hid (Xspl_r9.out.keep hb)
  have Xfour_c12 := Lib.hid (Xfour_r9.out.keep hb)
  have Xback_c12 := Lib.hid (Xback_r9.out.keep hb)
  have L70_c12 := Lib.hid (L70_r9.out.keep hb)
  clear hb
  go_wp2_with fail
  refine (buddy_ok 3 2 2 _ (by decide) (by decide) (by decide) (by decide)).mono ?_
  rintro e w130 ⟨rfl, hb⟩
  rw [show ((3 / 2 ^ (2 - 2) * 2 ^ (2 - 2) ^^^ 2 ^ (2 - 2) : Nat) : Int) = 2 by decide]
  have B130 := Lib.hid (B120.out.trans (hb.mono B120.out.size))
  have Xtwo_c13 := Lib.hid (Xtwo_c12.out.keep hb)
  have Xspl_c13 := Lib.hid (Xspl_c12.out.keep hb)
  have Xfour_c13 := Lib.hid (Xfour_c12.out.keep hb)
  have Xback_c13 := Lib.hid (Xback_c12.out.keep hb)
  have L70_c13 := Lib.hid (L70_c12.out.keep hb)
  clear hb
  go_wp2_with fail
  have b14 : Below w130.heap.size w130 (w130.alloc (.cells #[.int .u16 5, .int .u16 6, .int .u16 6, .int .u16 5] 26)) := (Below.refl _ _).alloc (Nat.le_refl _) _
  refine (of_any ⟨2, [5, 6, 6, 5]⟩ 2 rfl _ 4 4 _).mono ?_
  rintro e w140 ⟨rfl, hb9⟩
  have hb := b14.trans (hb9.mono b14.size)
  have R14 := Lib.hid (show ReadsW w140 (some ⟨w130.heap.size, 0, none⟩) 4 [5, 6, 6, 5] from (litW w130 [5, 6, 6, 5]).keep hb9)
  clear b14 hb9
  have B1400 := Lib.hid (B130.out.trans (hb.mono B130.out.size))
  have Xtwo_c140 := Lib.hid (Xtwo_c13.out.keep hb)
  have Xspl_c140 := Lib.hid (Xspl_c13.out.keep hb)
  have Xfour_c140 := Lib.hid (Xfour_c13.out.keep hb)
  have Xback_c140 := Lib.hid (Xback_c13.out.keep hb)
  have L70_c140 := Lib.hid (L70_c13.out.keep hb)
  clear hb
  go_wp2_with fail
  refine (right_any ⟨2, [5, 6, 6, 5]⟩ _ 4 4 _ R14.out (by simp [maxLen])).mono ?_
  rintro e w150 ⟨rfl, hb⟩
  rw [show rightB ⟨2, [5, 6, 6, 5]⟩ = false by decide +kernel]
  have B1500 := Lib.hid (B1400.out.trans (hb.mono B1400.out.size))
  have Xtwo_c150 := Lib.hid (Xtwo_c140.out.keep hb)
  have Xspl_c150 := Lib.hid (Xspl_c140.out.keep hb)
  have Xfour_c150 := Lib.hid (Xfour_c140.out.keep hb)
  have Xback_c150 := Lib.hid (Xback_c140.out.keep hb)
  have L70_c150 := Lib.hid (L70_c140.out.keep hb)
  clear R14
  clear hb
  go_wp2_with fail
  have b14 : Below w150.heap.size w150 (w150.alloc (.cells #[.int .u16 5, .int .u16 6, .int .u16 5, .int .u16 6] 26)) := (Below.refl _ _).alloc (Nat.le_refl _) _
  refine (of_any ⟨2, [5, 6, 5, 6]⟩ 2 rfl _ 4 4 _).mono ?_
  rintro e w141 ⟨rfl, hb9⟩
  have hb := b14.trans (hb9.mono b14.size)
  have R14 := Lib.hid (show ReadsW w141 (some ⟨w150.heap.size, 0, none⟩) 4 [5, 6, 5, 6] from (litW w150 [5, 6, 5, 6]).keep hb9)
  clear b14 hb9
  have B1410 := Lib.hid (B1500.out.trans (hb.mono B1500.out.size))
  have Xtwo_c141 := Lib.hid (Xtwo_c150.out.keep hb)
  have Xspl_c141 := Lib.hid (Xspl_c150.out.keep hb)
  have Xfour_c141 := Lib.hid (Xfour_c150.out.keep hb)
  have Xback_c141 := Lib.hid (Xback_c150.out.keep hb)
  have L70_c141 := Lib.hid (L70_c150.out.keep hb)
  clear hb
  go_wp2_with fail
  refine (right_any ⟨2, [5, 6, 5, 6]⟩ _ 4 4 _ R14.out (by simp [maxLen])).mono ?_
  rintro e w151 ⟨rfl, hb⟩
  rw [show rightB ⟨2, [5, 6, 5, 6]⟩ = false by decide +kernel]
  have B1510 := Lib.hid (B1410.out.trans (hb.mono B1410.out.size))
  have Xtwo_c151 := Lib.hid (Xtwo_c141.out.keep hb)
  have Xspl_c151 := Lib.hid (Xspl_c141.out.keep hb)
  have Xfour_c151 := Lib.hid (Xfour_c141.out.keep hb)
  have Xback_c151 := Lib.hid (Xback_c141.out.keep hb)
  have L70_c151 := Lib.hid (L70_c141.out.keep hb)
  clear R14
  clear hb
  go_wp2_with fail
  have b14 : Below w151.heap.size w151 (w151.alloc (.cells #[.int .u16 5, .int .u16 5, .int .u16 5, .int .u16 6] 26)) := (Below.refl _ _).alloc (Nat.le_refl _) _
  refine (of_any ⟨2, [5, 5, 5, 6]⟩ 2 rfl _ 4 4 _).mono ?_
  rintro e w142 ⟨rfl, hb9⟩
  have hb := b14.trans (hb9.mono b14.size)
  have R14 := Lib.hid (show ReadsW w142 (some ⟨w151.heap.size, 0, none⟩) 4 [5, 5, 5, 6] from (litW w151 [5, 5, 5, 6]).keep hb9)
  clear b14 hb9
  have B1420 := Lib.hid (B1510.out.trans (hb.mono B1510.out.size))
  have Xtwo_c142 := Lib.hid (Xtwo_c151.out.keep hb)
  have Xspl_c142 := Lib.hid (Xspl_c151.out.keep hb)
  have Xfour_c142 := Lib.hid (Xfour_c151.out.keep hb)
  have Xback_c142 := Lib.hid (Xback_c151.out.keep hb)
  have L70_c142 := Lib.hid (L70_c151.out.keep hb)
  clear hb
  go_wp2_with fail
  refine (right_any ⟨2, [5, 5, 5, 6]⟩ _ 4 4 _ R14.out (by simp [maxLen])).mono ?_
  rintro e w152 ⟨rfl, hb⟩
  rw [show rightB ⟨2, [5, 5, 5, 6]⟩ = false by decide +kernel]
  have B1520 := Lib.hid (B1420.out.trans (hb.mono B1420.out.size))
  have Xtwo_c152 := Lib.hid (Xtwo_c142.out.keep hb)
  have Xspl_c152 := Lib.hid (Xspl_c142.out.keep hb)
  have Xfour_c152 := Lib.hid (Xfour_c142.out.keep hb)
  have Xback_c152 := Lib.hid (Xback_c142.out.keep hb)
  have L70_c152 := Lib.hid (L70_c142.out.keep hb)
  clear R14
  clear hb
  go_upto_region 16 with fail
  have M0 : True := trivial
  have hS : ∀ w', Below w152.heap.size w152 w' → ((w'.cell? ⟨w2.heap.size, 0, none⟩ = some (.int .u8 (two.depth.toNat : Int)) ∧ w'.cell? ⟨w2.heap.size, 1, none⟩ = some (.slice A2 n2 c2)) ∧ (w'.cell? ⟨w5.heap.size, 0, none⟩ = some (.int .u8 (spl.depth.toNat : Int)) ∧ w'.cell? ⟨w5.heap.size, 1, none⟩ = some (.slice A5 n5 c5)) ∧ (w'.cell? ⟨w7.heap.size, 0, none⟩ = some (.int .u8 (four.depth.toNat : Int)) ∧ w'.cell? ⟨w7.heap.size, 1, none⟩ = some (.slice A7 n7 c7)) ∧ (w'.cell? ⟨w9.heap.size, 0, none⟩ = some (.int .u8 (spl.depth.toNat : Int)) ∧ w'.cell? ⟨w9.heap.size, 1, none⟩ = some (.slice A9 n9 c9))) := fun w' hb => ⟨(Xtwo_c152.out.keep hb).cells, (Xspl_c152.out.keep hb).cells, (Xfour_c152.out.keep hb).cells, (Xback_c152.out.keep hb).cells⟩
  have HS := Lib.hid hS
  have HB := Lib.hid (Below.refl w152.heap.size w152)
  obtain ⟨⟨p0, p1⟩, ⟨p2, p3⟩, ⟨p4, p5⟩, p6, p7⟩ := hS w152 (Below.refl _ _)
  clear hS
  go_region_held3 (fun w' => (w'.cell? ⟨w2.heap.size, 0, none⟩ = some (.int .u8 (two.depth.toNat : Int)) ∧ w'.cell? ⟨w2.heap.size, 1, none⟩ = some (.slice A2 n2 c2)) ∧ (w'.cell? ⟨w5.heap.size, 0, none⟩ = some (.int .u8 (spl.depth.toNat : Int)) ∧ w'.cell? ⟨w5.heap.size, 1, none⟩ = some (.slice A5 n5 c5)) ∧ (w'.cell? ⟨w7.heap.size, 0, none⟩ = some (.int .u8 (four.depth.toNat : Int)) ∧ w'.cell? ⟨w7.heap.size, 1, none⟩ = some (.slice A7 n7 c7)) ∧ (w'.cell? ⟨w9.heap.size, 0, none⟩ = some (.int .u8 (spl.depth.toNat : Int)) ∧ w'.cell? ⟨w9.heap.size, 1, none⟩ = some (.slice A9 n9 c9)))
    ((refine HS.out _ ?_; repeat' (first | exact HB.out | refine Below.drew ?_ | refine Below.alloc ?_ (by first | exact HB.out.size | (simp; done) | (have := HB.out.size; simp at this ⊢; omega)) _)))
    ((first
      | (go_at_call 11; have _mk := M0; refine (of_lit ⟨1, [5, 5]⟩ 1 rfl _ 2 2 _ (by first | exact litW _ [5, 5] | exact (litW _ [5, 5]).keep (Below.refl _ _).drew)).mono ?_; rintro e w' ⟨rfl, hrd, hb⟩; have RL1 := Lib.hid hrd; have HB := Lib.hid (show Below w152.heap.size w152 w' from below_then (by (repeat' (first | exact HB.out | refine Below.drew ?_ | refine Below.alloc ?_ (by first | exact HB.out.size | (simp; done) | (have := HB.out.size; simp at this ⊢; omega)) _))) hb (Nat.le_refl _)); clear hrd hb; clear _mk M0; have M1 : True := trivial)
      | (go_at_call 28; have _mk := M1; refine (same_any two ⟨1, [5, 5]⟩ _ _ _ _ _ _ _ ((Xtwo_c152.out.keep (show Below w152.heap.size w152 _ from (by (repeat' (first | exact HB.out | refine Below.drew ?_ | refine Below.alloc ?_ (by first | exact HB.out.size | (simp; done) | (have := HB.out.size; simp at this ⊢; omega)) _))))).rd) (by first | exact RL1.out | exact RL1.out.keep (Below.refl _ _).drew) (by first | omega | simp [maxLen]) (by first | omega | simp [maxLen])).mono ?_; rintro e w' ⟨rfl, hb⟩; rw [Kj.out]; have HB := Lib.hid (show Below w152.heap.size w152 w' from below_then (by (repeat' (first | exact HB.out | refine Below.drew ?_ | refine Below.alloc ?_ (by first | exact HB.out.size | (simp; done) | (have := HB.out.size; simp at this ⊢; omega)) _))) hb (Nat.le_refl _)); clear hb; clear _mk M1; have M2 : True := trivial)
      | (go_at_call 11; have _mk := M2; refine (of_lit ⟨1, [5, 6]⟩ 1 rfl _ 2 2 _ (by first | exact litW _ [5, 6] | exact (litW _ [5, 6]).keep (Below.refl _ _).drew)).mono ?_; rintro e w' ⟨rfl, hrd, hb⟩; have RL2 := Lib.hid hrd; have HB := Lib.hid (show Below w152.heap.size w152 w' from below_then (by (repeat' (first | exact HB.out | refine Below.drew ?_ | refine Below.alloc ?_ (by first | exact HB.out.size | (simp; done) | (have := HB.out.size; simp at this ⊢; omega)) _))) hb (Nat.le_refl _)); clear hrd hb; clear _mk M2; have M3 : True := trivial)
      | (go_at_call 28; have _mk := M3; refine (same_any spl ⟨1, [5, 6]⟩ _ _ _ _ _ _ _ ((Xspl_c152.out.keep (show Below w152.heap.size w152 _ from (by (repeat' (first | exact HB.out | refine Below.drew ?_ | refine Below.alloc ?_ (by first | exact HB.out.size | (simp; done) | (have := HB.out.size; simp at this ⊢; omega)) _))))).rd) (by first | exact RL2.out | exact RL2.out.keep (Below.refl _ _).drew) (by first | omega | simp [maxLen]) (by first | omega | simp [maxLen])).mono ?_; rintro e w' ⟨rfl, hb⟩; rw [Kk.out]; have HB := Lib.hid (show Below w152.heap.size w152 w' from below_then (by (repeat' (first | exact HB.out | refine Below.drew ?_ | refine Below.alloc ?_ (by first | exact HB.out.size | (simp; done) | (have := HB.out.size; simp at this ⊢; omega)) _))) hb (Nat.le_refl _)); clear hb; clear _mk M3; have M4 : True := trivial)
      | (go_at_call 11; have _mk := M4; refine (of_lit ⟨2, [5, 5, 6, 6]⟩ 2 rfl _ 4 4 _ (by first | exact litW _ [5, 5, 6, 6] | exact (litW _ [5, 5, 6, 6]).keep (Below.refl _ _).drew)).mono ?_; rintro e w' ⟨rfl, hrd, hb⟩; have RL4 := Lib.hid hrd; have HB := Lib.hid (show Below w152.heap.size w152 w' from below_then (by (repeat' (first | exact HB.out | refine Below.drew ?_ | refine Below.alloc ?_ (by first | exact HB.out.size | (simp; done) | (have := HB.out.size; simp at this ⊢; omega)) _))) hb (Nat.le_refl _)); clear hrd hb; clear _mk M4; have M5 : True := trivial)
      | (go_at_call 28; have _mk := M5; refine (same_any four ⟨2, [5, 5, 6, 6]⟩ _ _ _ _ _ _ _ ((Xfour_c152.out.keep (show Below w152.heap.size w152 _ from (by (repeat' (first | exact HB.out | refine Below.drew ?_ | refine Below.alloc ?_ (by first | exact HB.out.size | (simp; done) | (have := HB.out.size; simp at this ⊢; omega)) _))))).rd) (by first | exact RL4.out | exact RL4.out.keep (Below.refl _ _).drew) (by first | omega | simp [maxLen]) (by first | omega | simp [maxLen])).mono ?_; rintro e w' ⟨rfl, hb⟩; rw [Kl.out]; have HB := Lib.hid (show Below w152.heap.size w152 w' from below_then (by (repeat' (first | exact HB.out | refine Below.drew ?_ | refine Below.alloc ?_ (by first | exact HB.out.size | (simp; done) | (have := HB.out.size; simp at this ⊢; omega)) _))) hb (Nat.le_refl _)); clear hb; clear _mk M5; have M6 : True := trivial)
      | (go_at_call 28; have _mk := M6; refine (same_any spl spl _ _ _ _ _ _ _ ((Xback_c152.out.keep (show Below w152.heap.size w152 _ from (by (repeat' (first | exact HB.out | refine Below.drew ?_ | refine Below.alloc ?_ (by first | exact HB.out.size | (simp; done) | (have := HB.out.size; simp at this ⊢; omega)) _))))).rd) ((Xspl_c152.out.keep (show Below w152.heap.size w152 _ from (by (repeat' (first | exact HB.out | refine Below.drew ?_ | refine Below.alloc ?_ (by first | exact HB.out.size | (simp; done) | (have := HB.out.size; simp at this ⊢; omega)) _))))).rd) (by first | omega | simp [maxLen]) (by first | omega | simp [maxLen])).mono ?_; rintro e w' ⟨rfl, hb⟩; rw [Km.out]; have HB := Lib.hid (show Below w152.heap.size w152 w' from below_then (by (repeat' (first | exact HB.out | refine Below.drew ?_ | refine Below.alloc ?_ (by first | exact HB.out.size | (simp; done) | (have := HB.out.size; simp at this ⊢; omega)) _))) hb (Nat.le_refl _)); clear hb; clear _mk M6; have M7 : True := trivial)
      | (go_at_call 19; have _mk := M7; refine (eqplaces_any _ _ 2 2 _ _ [2, 3] [2, 3] _ (L70_c152.out.keep (show Below w152.heap.size w152 _ from (by (repeat' (first | exact HB.out | refine Below.drew ?_ | refine Below.alloc ?_ (by first | exact HB.out.size | (simp; done) | (have := HB.out.size; simp at this ⊢; omega)) _))))) (by first | exact litI _ [2, 3] | exact (litI _ [2, 3]).keep (Below.refl _ _).drew) (by simp [maxLen]) (by simp [maxLen])).mono ?_; rintro e w' ⟨rfl, hq⟩; rw [show sameI [2, 3] [2, 3] = true from sameI_iff.2 rfl]; have HB := Lib.hid (show Below w152.heap.size w152 w' from below_then (by (repeat' (first | exact HB.out | refine Below.drew ?_ | refine Below.alloc ?_ (by first | exact HB.out.size | (simp; done) | (have := HB.out.size; simp at this ⊢; omega)) _))) hq.below (Nat.le_refl _)); clear hq; clear _mk M7; have M8 : True := trivial)))
  all_goals
    go_wp2_with fail
    go_ret
    exact ⟨rfl, B1520.out.trans (HB.out.mono B1520.out.size)⟩

end Go.Proofs.Ytlkmcjjdjbdihaa
