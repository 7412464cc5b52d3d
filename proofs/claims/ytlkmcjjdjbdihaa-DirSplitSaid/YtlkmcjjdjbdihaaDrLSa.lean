/-
  DirSplit: the walk.
-/
import Derived.Test.YtlkmcjjdjbdihaaDrSpP
import Derived.Test.YtlkmcjjdjbdihaaDrLWt
import Derived.Test.YtlkmcjjdjbdihaaDrLBud
namespace Go.Proofs.Ytlkmcjjdjbdihaa
open Go.RowKit Go.Maps
set_option linter.unusedVariables false
set_option linter.unusedSimpArgs false
attribute [local go_sem ↓] Go.wp_at_zero Go.wp_at_succ

set_option maxHeartbeats 8000000 in
set_option maxRecDepth 100000 in
theorem split_bad (d : Dir) (A : Option Addr) (n c x : Nat) (b : UInt16) (w : World) (h : ReadsW w A n d.slots) (hn : n ≤ maxLen) (hbad : rightB d = false ∨ (rightB d = true ∧ b.toNat = 0) ∨ (rightB d = true ∧ ¬ b.toNat = 0 ∧ 4096 ≤ b.toNat)) :
    Calls Try.prog 6 #[dval d A n c, .int .u8 (x : Int), .int .u16 (b.toNat : Int)] w fun e w' => e = .returned (.bool true) ∧ Below w.heap.size w w' := by
  have HR := Lib.hid h; clear h
  obtain ⟨W0, hW0⟩ : ∃ W0 : World, W0 = w.alloc (.cells #[.int .u8 (d.depth.toNat : Int), .slice A n c] 24) := ⟨_, rfl⟩
  have B0 : Hid (Below w.heap.size w W0) := Lib.hid (by rw [hW0]; exact (Below.refl _ w).alloc (Nat.le_refl _) _)
  have S0 : Hid (BoxD W0 w.heap.size d A n c) := Lib.hid (by rw [hW0]; exact BoxD.new w d A n c HR.out)
  have HW := Lib.hid hW0; clear hW0
  obtain ⟨Y, hY⟩ : ∃ Y, Y = b.toNat := ⟨_, rfl⟩
  rw [← hY]
  obtain ⟨a0, a1⟩ := S0.out.cells
  unfold dval
  go_enter Try.func6, Try.ntmps6
  go_upto_region 1 with fail
  rw [← HW.out]
  clear HW
  go_wp2_with fail
  rw [dval_eq]
  refine (right_any d A n c _ S0.out.rd hn).mono ?_
  rintro e w1 ⟨rfl, hb⟩
  have B1 := Lib.hid (B0.out.trans (hb.mono B0.out.size))
  have S1 := Lib.hid (S0.out.keep hb)
  clear hb a0 a1
  rw [← hY] at hbad
  clear hY
  rcases hbad with h1 | ⟨h1, h2⟩ | ⟨h1, h2, h3⟩
  · rw [h1]
    go_wp2_with fail
    refine (awake_any _).mono ?_
    rintro e u4 ⟨rfl, hb1⟩
    have C4 := Lib.hid (B1.out.trans (hb1.mono B1.out.size))
    clear hb1
    go_wp2_with fail
    go_ret
    exact ⟨rfl, C4.out⟩
  · rw [h1]
    subst h2
    go_wp2_with fail
    refine (awake_any _).mono ?_
    rintro e u4 ⟨rfl, hb1⟩
    have C4 := Lib.hid (B1.out.trans (hb1.mono B1.out.size))
    clear hb1
    go_wp2_with fail
    go_ret
    exact ⟨rfl, C4.out⟩
  · rw [h1]
    have y1 : ((Y : Int) == 0) = false := beq_eq_false_iff_ne.2 (by omega)
    have y2 : (4096 : Int) ≤ (Y : Int) := by omega
    go_wp2_with fail
    refine (awake_any _).mono ?_
    rintro e u4 ⟨rfl, hb1⟩
    have C4 := Lib.hid (B1.out.trans (hb1.mono B1.out.size))
    clear hb1
    go_wp2_with fail
    go_ret
    exact ⟨rfl, C4.out⟩

set_option maxHeartbeats 8000000 in
set_option maxRecDepth 100000 in
theorem split_has (d : Dir) (A : Option Addr) (n c x s k : Nat) (b : UInt16) (w : World) (h : ReadsW w A n d.slots) (hn : n ≤ maxLen) (K1 : Hid (rightB d = true)) (hR : Hid (RightD d d.depth.toNat)) (hok : ¬ b.toNat = 0 ∧ ¬ 4096 ≤ b.toNat) (lx : x < 256) (hd8 : d.depth.toNat ≤ 8) (hn256 : n ≤ 256) (n0 : ¬ n = 0) (e1 : (x : Int) % (n : Int) = (s : Int)) (hs : s < n) (Hs : Hid (s < 2 ^ d.depth.toNat)) (Hk : Hid (k ≤ d.depth.toNat)) (Hf : Hid (Fits d.slots d.depth.toNat s k)) (hex : Hid (∃ i, i < n ∧ at_ d.slots i = b)) :
    Calls Try.prog 6 #[dval d A n c, .int .u8 (x : Int), .int .u16 (b.toNat : Int)] w fun e w' => e = .returned (.bool true) ∧ Below w.heap.size w w' := by
  have HR := Lib.hid h; clear h
  obtain ⟨W0, hW0⟩ : ∃ W0 : World, W0 = w.alloc (.cells #[.int .u8 (d.depth.toNat : Int), .slice A n c] 24) := ⟨_, rfl⟩
  have B0 : Hid (Below w.heap.size w W0) := Lib.hid (by rw [hW0]; exact (Below.refl _ w).alloc (Nat.le_refl _) _)
  have S0 : Hid (BoxD W0 w.heap.size d A n c) := Lib.hid (by rw [hW0]; exact BoxD.new w d A n c HR.out)
  have HW := Lib.hid hW0; clear hW0
  obtain ⟨Y, hY⟩ : ∃ Y, Y = b.toNat := ⟨_, rfl⟩
  rw [← hY]
  obtain ⟨a0, a1⟩ := S0.out.cells
  unfold dval
  go_enter Try.func6, Try.ntmps6
  go_upto_region 1 with fail
  rw [← HW.out]
  clear HW
  go_wp2_with fail
  rw [dval_eq]
  refine (right_any d A n c _ S0.out.rd hn).mono ?_
  rintro e w1 ⟨rfl, hb⟩
  have B1 := Lib.hid (B0.out.trans (hb.mono B0.out.size))
  have S1 := Lib.hid (S0.out.keep hb)
  clear hb a0 a1
  rw [K1.out]
  obtain ⟨a0, a1⟩ := S1.out.cells
  have HY := Lib.hid hY
  have y0 : ¬ Y = 0 := by rw [hY]; exact hok.1
  have y1 : ((Y : Int) == 0) = false := beq_eq_false_iff_ne.2 (by omega)
  have y2 : ¬ (4096 : Int) ≤ (Y : Int) := by rw [hY]; have := hok.2; omega
  have y3 : ¬ 4096 ≤ Y := by rw [hY]; exact hok.2
  clear hY hok
  unfold dval
  go_wp2_with fail
  rw [e1]
  rw [dval_eq]
  refine (depth_ok d A n c d.depth.toNat s k _ S1.out.rd hR.out Hs.out Hk.out Hf.out).mono ?_
  rintro e w2 ⟨rfl, hb⟩
  have B2 := Lib.hid (B1.out.trans (hb.mono B1.out.size))
  have S2 := Lib.hid (S1.out.keep hb)
  clear hb a0 a1
  obtain ⟨a0, a1⟩ := S2.out.cells
  go_wp2_with fail
  go_loopw [53] (fun i wr => ∃ j : Nat, j ≤ n ∧ i = .int .i64 (j : Int) ∧ wr = w2 ∧ ∀ i, i < j → at_ d.slots i ≠ b) (fun i _ => n - (intOf i).toNat)
  case atStart => exact ⟨0, Nat.zero_le _, rfl, rfl, fun i hi => absurd hi (Nat.not_lt_zero _)⟩
  case round =>
    obtain ⟨j, hj, rfl, rfl, hno⟩ := hrel
    have HNO := Lib.hid hno; clear hno
    by_cases hlt : j < n
    · obtain ⟨bd, od, rfl, _, cj⟩ := S2.out.rd.getD hlt
      have h1 : (j : Int) < (n : Int) := by omega
      have h2 : (0 : Int) ≤ (j : Int) := by omega
      obtain ⟨u, hu⟩ : ∃ u, u = (at_ d.slots j).toNat := ⟨_, rfl⟩
      rw [← hu] at cj
      by_cases huv : u = Y
      · subst huv
        clear hu
        go_wp2_with fail
        refine (awake_any _).mono ?_
        rintro e u4 ⟨rfl, hb1⟩
        have C4 := Lib.hid (B2.out.trans (hb1.mono B2.out.size))
        clear hb1
        go_wp2_with fail
        go_ret
        exact ⟨rfl, C4.out⟩
      · have q1 : ((u : Int) == (Y : Int)) = false := beq_eq_false_iff_ne.2 (by omega)
        have q2 : (u == Y) = false := beq_eq_false_iff_ne.2 huv
        have HU : Hid (at_ d.slots j ≠ b) := Lib.hid (fun e => huv (by rw [hu, e, HY.out]))
        clear hu
        go_wp2_with fail
        go_roundw
        case rel => exact ⟨j + 1, by omega, by go_num, trivial, fun i hi => if hij : i = j then by rw [hij]; exact HU.out else HNO.out i (by omega)⟩
        case measure => simp [intOf]; omega
    · obtain rfl : j = n := by omega
      obtain ⟨i, hi, he⟩ := hex.out
      exact absurd he (HNO.out i hi)

set_option maxHeartbeats 8000000 in
set_option maxRecDepth 100000 in
theorem split_full (d : Dir) (bd od n c x s k  : Nat) (b : UInt16) (w : World) (h : ReadsW w (some ⟨bd, od, none⟩) n d.slots) (hn : n ≤ maxLen) (K1 : Hid (rightB d = true)) (hR : Hid (RightD d d.depth.toNat)) (hok : ¬ b.toNat = 0 ∧ ¬ 4096 ≤ b.toNat) (lx : x < 256) (hd8 : d.depth.toNat ≤ 8) (hn256 : n ≤ 256) (n0 : ¬ n = 0) (e1 : (x : Int) % (n : Int) = (s : Int)) (hs : s < n) (Hs : Hid (s < 2 ^ d.depth.toNat)) (Hk : Hid (k ≤ d.depth.toNat)) (Hf : Hid (Fits d.slots d.depth.toNat s k)) (hb : Hid (∀ i, i < n → at_ d.slots i ≠ b)) (hkd : Hid (k = d.depth.toNat)) (HE : Hid (pointE d (s : Int) ((k : Int) + 1) b = 2)) :
    Calls Try.prog 6 #[dval d (some ⟨bd, od, none⟩) n c, .int .u8 (x : Int), .int .u16 (b.toNat : Int)] w fun e w' => e = .returned (.bool true) ∧ Below w.heap.size w w' := by
  have HR := Lib.hid h; clear h
  obtain ⟨W0, hW0⟩ : ∃ W0 : World, W0 = w.alloc (.cells #[.int .u8 (d.depth.toNat : Int), .slice (some ⟨bd, od, none⟩) n c] 24) := ⟨_, rfl⟩
  have B0 : Hid (Below w.heap.size w W0) := Lib.hid (by rw [hW0]; exact (Below.refl _ w).alloc (Nat.le_refl _) _)
  have S0 : Hid (BoxD W0 w.heap.size d (some ⟨bd, od, none⟩) n c) := Lib.hid (by rw [hW0]; exact BoxD.new w d (some ⟨bd, od, none⟩) n c HR.out)
  have HW := Lib.hid hW0; clear hW0
  obtain ⟨Y, hY⟩ : ∃ Y, Y = b.toNat := ⟨_, rfl⟩
  rw [← hY]
  obtain ⟨a0, a1⟩ := S0.out.cells
  unfold dval
  go_enter Try.func6, Try.ntmps6
  go_upto_region 1 with fail
  rw [← HW.out]
  clear HW
  go_wp2_with fail
  rw [dval_eq]
  refine (right_any d (some ⟨bd, od, none⟩) n c _ S0.out.rd hn).mono ?_
  rintro e w1 ⟨rfl, hb⟩
  have B1 := Lib.hid (B0.out.trans (hb.mono B0.out.size))
  have S1 := Lib.hid (S0.out.keep hb)
  clear hb a0 a1
  rw [K1.out]
  obtain ⟨a0, a1⟩ := S1.out.cells
  have HY := Lib.hid hY
  have y0 : ¬ Y = 0 := by rw [hY]; exact hok.1
  have y1 : ((Y : Int) == 0) = false := beq_eq_false_iff_ne.2 (by omega)
  have y2 : ¬ (4096 : Int) ≤ (Y : Int) := by rw [hY]; have := hok.2; omega
  have y3 : ¬ 4096 ≤ Y := by rw [hY]; exact hok.2
  clear hY hok
  unfold dval
  have wk : IntKind.i64.wrap ((k : Int) + 1) = (k : Int) + 1 := (wrap_small (n := k + 1) (Nat.le_trans (Nat.succ_le_succ (Nat.le_trans Hk.out hd8)) (by decide))).2
  have HWK := Lib.hid wk
  clear wk
  go_wp2_with fail
  rw [e1]
  rw [dval_eq]
  refine (depth_ok d (some ⟨bd, od, none⟩) n c d.depth.toNat s k _ S1.out.rd hR.out Hs.out Hk.out Hf.out).mono ?_
  rintro e w2 ⟨rfl, hb⟩
  have B2 := Lib.hid (B1.out.trans (hb.mono B1.out.size))
  have S2 := Lib.hid (S1.out.keep hb)
  clear hb a0 a1
  obtain ⟨a0, a1⟩ := S2.out.cells
  go_wp2_with fail
  go_loopw [53] (fun i wr => ∃ j : Nat, j ≤ n ∧ i = .int .i64 (j : Int) ∧ wr = w2) (fun i _ => n - (intOf i).toNat)
  case atStart => exact ⟨0, Nat.zero_le _, rfl, rfl⟩
  case round =>
    obtain ⟨j, hj, rfl, rfl⟩ := hrel
    by_cases hlt : j < n
    · have cj := S2.out.rd.at' hlt
      have h1 : (j : Int) < (n : Int) := by omega
      have h2 : (0 : Int) ≤ (j : Int) := by omega
      have huv := hb.out j hlt
      obtain ⟨u, hu⟩ : ∃ u, u = (at_ d.slots j).toNat := ⟨_, rfl⟩
      rw [← hu] at cj
      have huv2 : ¬ u = Y := fun e => huv (UInt16.toNat_inj.1 (by rw [← hu, e, HY.out]))
      have q1 : ((u : Int) == (Y : Int)) = false := beq_eq_false_iff_ne.2 (by omega)
      have q2 : (u == Y) = false := beq_eq_false_iff_ne.2 huv2
      clear hu huv huv2
      go_wp2_with fail
      go_roundw
      case rel => exact ⟨j + 1, by omega, by go_num, trivial⟩
      case measure => simp [intOf]; omega
    · obtain rfl : n = j := by omega
      have h1 : ¬ (n : Int) < (n : Int) := by omega
      have wk := HWK.out
      go_wp2_with fail
      clear wk
      rw [HY.out, dval_eq]
      refine (point_any d (some ⟨bd, od, none⟩) n c (s : Int) ((k : Int) + 1) b _ S2.out.rd hn).mono ?_
      rintro e w3 hD
      rw [HE.out] at hD
      obtain ⟨rfl, hb3⟩ := retd_none hD (by decide)
      obtain ⟨W4, hV⟩ : ∃ W : World, W = w3.alloc (.cells #[.int .u8 0, .slice none 0 0] 24) := ⟨_, rfl⟩
      have bV : Below w3.heap.size w3 W4 := by rw [hV]; exact (Below.refl _ _).alloc (Nat.le_refl _) _
      have bb := hb3.trans (bV.mono hb3.size)
      have B4 := Lib.hid (B2.out.trans (bb.mono B2.out.size))
      have S4 := Lib.hid (S2.out.keep bb)
      have HW := Lib.hid hV
      clear hD hb3 bV hV bb a0 a1
      unfold dzero
      go_upto_region 12 with fail
      rw [← HW.out]
      clear HW
      obtain ⟨a0, a1⟩ := S4.out.cells
      have t1 : ((k : Int) == (d.depth.toNat : Int)) = true := beq_iff_eq.2 (by rw [hkd.out])
      have t2 : (k == d.depth.toNat) = true := beq_iff_eq.2 hkd.out
      go_wp2_with fail
      refine (awake_any _).mono ?_
      rintro e u4 ⟨rfl, hb1⟩
      have C4 := Lib.hid (B4.out.trans (hb1.mono B4.out.size))
      clear hb1
      go_wp2_with fail
      go_ret
      exact ⟨rfl, C4.out⟩


end Go.Proofs.Ytlkmcjjdjbdihaa
