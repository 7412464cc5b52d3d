/-
  DirTells: the walk.
-/
import Derived.Test.YtlkmcjjdjbdihaaDrRg
import Derived.Test.YtlkmcjjdjbdihaaDrRh
import Derived.Test.YtlkmcjjdjbdihaaDrRi
import Derived.Test.YtlkmcjjdjbdihaaDrLWs
namespace Go.Proofs.Ytlkmcjjdjbdihaa
open Go.RowKit Go.Maps
set_option linter.unusedVariables false
set_option linter.unusedSimpArgs false
attribute [local go_sem ↓] Go.wp_at_zero Go.wp_at_succ

def askV (X s k t Y : Int) : Value := .agg #[.int .u64 X, .int .i64 s, .int .i64 k, .int .i64 t, .int .u16 Y]
def askC (X s k t Y : Int) : List Value := [.int .u64 X, .int .i64 s, .int .i64 k, .int .i64 t, .int .u16 Y]

set_option maxHeartbeats 4000000 in
set_option maxRecDepth 100000 in
theorem tells_long (d : Dir) (A : Option Addr) (n c : Nat) (X s k t Y : Int) (w : World) (h : ReadsW w A n d.slots) (hn : n ≤ maxLen) (h64 : 64 < n) :
    Calls Try.prog 3 #[dval d A n c, askV X s k t Y] w fun e w' => e = .returned (.bool true) ∧ Below w.heap.size w w' := by
  have hi : (64 : Int) < (n : Int) := by omega
  have hB : Hid (Below w.heap.size w ((w.alloc (.cells #[.int .u8 (d.depth.toNat : Int), .slice A n c] 24)).alloc (.cells #[.int .u64 X, .int .i64 s, .int .i64 k, .int .i64 t, .int .u16 Y] 28))) := Lib.hid (((Below.refl _ w).alloc (Nat.le_refl _) _).alloc (by simp) _)
  clear h
  unfold dval askV
  go_enter Try.func3, Try.ntmps3
  go_wp2_with fail
  refine (awake_any _).mono ?_
  rintro e w4 ⟨rfl, hb⟩
  have B4 := Lib.hid (hB.out.trans (hb.mono hB.out.size))
  go_wp2_with fail
  go_ret
  exact ⟨rfl, B4.out⟩

set_option maxHeartbeats 16000000 in
set_option maxRecDepth 100000 in
theorem tells_walk (d dP dX dH : Dir) (A : Option Addr) (n c : Nat) (X s k t Y aV aE DV BE PE XE HE uV uE : Int) (l : List Int) (rB : Bool) (w : World) (h : ReadsW w A n d.slots) (h64 : n ≤ 64)
    (HA1 : Hid (∀ (w : World) (A : Option Addr) (n c : Nat), ReadsW w A n d.slots → n ≤ maxLen → Calls Try.prog 12 #[dval d A n c, .int .u64 X] w fun e w' => e = .returned (.tuple #[.int .i64 aV, .int .i64 aE]) ∧ Below w.heap.size w w'))
    (HA2 : Hid (∀ (w : World) (A : Option Addr) (n c : Nat), ReadsW w A n d.slots → n ≤ maxLen → Calls Try.prog 13 #[dval d A n c, .int .u64 X] w fun e w' => e = .returned (.tuple #[.int .i64 aV, .int .i64 aE]) ∧ Below w.heap.size w w'))
    (HB1 : Hid (∀ (w : World) (A : Option Addr) (n c : Nat), ReadsW w A n d.slots → n ≤ maxLen → Calls Try.prog 14 #[dval d A n c, .int .i64 s] w fun e w' => ∃ A n c, e = .returned (.tuple #[.slice A n c, .int .i64 BE]) ∧ ReadsI w' A n l ∧ n ≤ maxLen ∧ Below w.heap.size w w'))
    (HB2 : Hid (∀ (w : World) (A : Option Addr) (n c : Nat), ReadsW w A n d.slots → n ≤ maxLen → Calls Try.prog 16 #[dval d A n c, .int .i64 s] w fun e w' => ∃ A n c, e = .returned (.tuple #[.slice A n c, .int .i64 DV, .int .i64 BE]) ∧ ReadsI w' A n l ∧ n ≤ maxLen ∧ Below w.heap.size w w'))
    (HD1 : Hid (∀ (w : World) (A : Option Addr) (n c : Nat), ReadsW w A n d.slots → n ≤ maxLen → Calls Try.prog 15 #[dval d A n c, .int .i64 s] w fun e w' => e = .returned (.tuple #[.int .i64 DV, .int .i64 BE]) ∧ Below w.heap.size w w'))
    (HR1 : Hid (∀ (w : World) (A : Option Addr) (n c : Nat), ReadsW w A n d.slots → n ≤ maxLen → Calls Try.prog 17 #[dval d A n c] w fun e w' => e = .returned (.bool rB) ∧ Below w.heap.size w w'))
    (HR2 : Hid (∀ (w : World) (A : Option Addr) (n c : Nat), ReadsW w A n d.slots → n ≤ maxLen → Calls Try.prog 18 #[dval d A n c] w fun e w' => e = .returned (.bool rB) ∧ Below w.heap.size w w'))
    (HP1 : Hid (∀ (w : World) (A : Option Addr) (n c : Nat), ReadsW w A n d.slots → n ≤ maxLen → Calls Try.prog 20 #[dval d A n c, .int .i64 s, .int .i64 k, .int .u16 Y] w fun e w' => ∃ A n c, e = .returned (.tuple #[dval dP A n c, .int .i64 PE]) ∧ ReadsW w' A n dP.slots ∧ n ≤ maxLen ∧ Below w.heap.size w w'))
    (HP2 : Hid (∀ (w : World) (A : Option Addr) (n c : Nat), ReadsW w A n d.slots → n ≤ maxLen → Calls Try.prog 21 #[dval d A n c, .int .i64 s, .int .i64 k, .int .u16 Y] w fun e w' => ∃ A n c, e = .returned (.tuple #[dval dP A n c, .int .i64 PE]) ∧ ReadsW w' A n dP.slots ∧ n ≤ maxLen ∧ Below w.heap.size w w'))
    (HX1 : Hid (∀ (w : World) (A : Option Addr) (n c : Nat), ReadsW w A n d.slots → n ≤ maxLen → Calls Try.prog 22 #[dval d A n c] w fun e w' => ∃ A n c, e = .returned (.tuple #[dval dX A n c, .int .i64 XE]) ∧ ReadsW w' A n dX.slots ∧ n ≤ maxLen ∧ Below w.heap.size w w'))
    (HX2 : Hid (∀ (w : World) (A : Option Addr) (n c : Nat), ReadsW w A n d.slots → n ≤ maxLen → Calls Try.prog 23 #[dval d A n c] w fun e w' => ∃ A n c, e = .returned (.tuple #[dval dX A n c, .int .i64 XE]) ∧ ReadsW w' A n dX.slots ∧ n ≤ maxLen ∧ Below w.heap.size w w'))
    (HH1 : Hid (∀ (w : World) (A : Option Addr) (n c : Nat), ReadsW w A n d.slots → n ≤ maxLen → Calls Try.prog 24 #[dval d A n c] w fun e w' => ∃ A n c, e = .returned (.tuple #[dval dH A n c, .int .i64 HE]) ∧ ReadsW w' A n dH.slots ∧ n ≤ maxLen ∧ Below w.heap.size w w'))
    (HH2 : Hid (∀ (w : World) (A : Option Addr) (n c : Nat), ReadsW w A n d.slots → n ≤ maxLen → Calls Try.prog 25 #[dval d A n c] w fun e w' => ∃ A n c, e = .returned (.tuple #[dval dH A n c, .int .i64 HE]) ∧ ReadsW w' A n dH.slots ∧ n ≤ maxLen ∧ Below w.heap.size w w'))
    (HU1 : Hid (∀ w : World, Calls Try.prog 26 #[.int .i64 s, .int .i64 k, .int .i64 t] w fun e w' => e = .returned (.tuple #[.int .i64 uV, .int .i64 uE]) ∧ Below w.heap.size w w'))
    (HU2 : Hid (∀ w : World, Calls Try.prog 27 #[.int .i64 s, .int .i64 k, .int .i64 t] w fun e w' => e = .returned (.tuple #[.int .i64 uV, .int .i64 uE]) ∧ Below w.heap.size w w')) :
    Calls Try.prog 3 #[dval d A n c, askV X s k t Y] w fun e w' => e = .returned (.bool true) ∧ Below w.heap.size w w' := by
  have hn : n ≤ maxLen := Nat.le_trans h64 (by decide)
  have HNM : Hid (n ≤ 1024) := Lib.hid (Nat.le_trans h64 (by decide))
  have HNX := Lib.hid hn
  have HL := Lib.hid h.1
  have hi1 : ¬ (64 : Int) < (n : Int) := by omega
  have HR := Lib.hid h; clear h
  obtain ⟨W0, hW0⟩ : ∃ W0 : World, W0 = w.alloc (.cells #[.int .u8 (d.depth.toNat : Int), .slice A n c] 24) := ⟨_, rfl⟩
  obtain ⟨W1, hW1⟩ : ∃ W1 : World, W1 = W0.alloc (.cells #[.int .u64 X, .int .i64 s, .int .i64 k, .int .i64 t, .int .u16 Y] 28) := ⟨_, rfl⟩
  have b0 : Below w.heap.size w W0 := by rw [hW0]; exact (Below.refl _ w).alloc (Nat.le_refl _) _
  have b1 : Below W0.heap.size W0 W1 := by rw [hW1]; exact (Below.refl _ _).alloc (Nat.le_refl _) _
  have z0 : W0.heap.size = w.heap.size + 1 := by rw [hW0]; simp
  have s0 : BoxD W0 w.heap.size d A n c := by rw [hW0]; exact BoxD.new w d A n c HR.out
  have q1 : MemC W1 (w.heap.size + 1) 0 (askC X s k t Y) := by rw [hW1, ← z0]; exact MemC.new W0 (askC X s k t Y) 28
  have B1 := Lib.hid (b0.trans (b1.mono b0.size))
  have S1 := Lib.hid (s0.keep b1)
  have Q1 := Lib.hid q1
  have HW : Hid (W1 = (w.alloc (.cells #[.int .u8 (d.depth.toNat : Int), .slice A n c] 24)).alloc (.cells #[.int .u64 X, .int .i64 s, .int .i64 k, .int .i64 t, .int .u16 Y] 28)) := Lib.hid (by rw [hW1, hW0])
  clear b0 b1 z0 s0 q1 hW0 hW1
  obtain ⟨a0, a1⟩ := S1.out.cells
  unfold dval askV
  go_enter Try.func3, Try.ntmps3
  go_upto_region 1 with fail
  rw [← HW.out]
  clear HW
  go_upto_region 3 with fail
  have HS := Lib.hid (fun w' (hb : Below W1.heap.size W1 w') => show w'.cell? ⟨w.heap.size, 0, none⟩ = some (.int .u8 (d.depth.toNat : Int)) ∧ w'.cell? ⟨w.heap.size, 1, none⟩ = some (.slice A n c) from (S1.out.keep hb).cells)
  have HB := Lib.hid (Below.refl W1.heap.size W1)
  go_cut [5] from 33 (fun s9 wx => ∃ (P : Nat) (A9 : Option Addr) (c9 : Nat), s9 = .pointer (some ⟨P, 0, none⟩) ∧ MemC wx P 0 [.int .u8 (d.depth.toNat : Int), .slice A9 n c9] ∧ OwnW wx W1.heap.size A9 n c9 d.slots ∧ W1.heap.size ≤ P ∧ Below W1.heap.size W1 wx)
  case first =>
    go_region_held3 (fun w' => w'.cell? ⟨w.heap.size, 0, none⟩ = some (.int .u8 (d.depth.toNat : Int)) ∧ w'.cell? ⟨w.heap.size, 1, none⟩ = some (.slice A n c))
      ((refine HS.out _ ?_; (repeat' (first | exact HB.out | exact Below.refl _ _ | refine Below.drew ?_ | refine Below.alloc ?_ (by first | exact HB.out.size | exact Nat.le_refl _ | (simp; done) | (have := HB.out.size; simp at this ⊢; omega)) _ | refine Below.setCell ?_ (by first | exact Nat.le_refl _ | exact HB1.out | (simp; done) | (simp; omega)) _))))
      ((first
        | (refine step_appendC (by rfl) _ _ 22 (by rfl) W1.heap.size 26 (.int .u16 0) 1 2 Try.underlying22 u16info rfl (by omega) (.slice (some ⟨W1.heap.size, 0, none⟩) 0 0) 0 [] (by rfl) ?_ A n c (wcells d.slots) (by rfl) ?_ ?_ (wcells_one _) ?_ ?_ ?_ ?_; (exact own_nil16 W1); (rw [wcells_length, Nat.mul_one]; exact HL.out); exact (S1.out.rd.keep (show Below W1.heap.size W1 _ from by (repeat' (first | exact HB.out | exact Below.refl _ _ | refine Below.drew ?_ | refine Below.alloc ?_ (by first | exact HB.out.size | exact Nat.le_refl _ | (simp; done) | (have := HB.out.size; simp at this ⊢; omega)) _ | refine Below.setCell ?_ (by first | exact Nat.le_refl _ | exact HB1.out | (simp; done) | (simp; omega)) _)))).2; (have := HNM.out; simp only [maxLen]; omega); (have := HNM.out; omega); exact (show Below W1.heap.size W1 _ from by (repeat' (first | exact HB.out | exact Below.refl _ _ | refine Below.drew ?_ | refine Below.alloc ?_ (by first | exact HB.out.size | exact Nat.le_refl _ | (simp; done) | (have := HB.out.size; simp at this ⊢; omega)) _ | refine Below.setCell ?_ (by first | exact Nat.le_refl _ | exact HB1.out | (simp; done) | (simp; omega)) _))).size; intro v1 w1' hown1 hgrow1 hnil1 hat1; obtain ⟨A9, c9, rfl, hw9⟩ := own_OwnW (l := d.slots) (n := n) (by rw [Nat.zero_add] at hown1; exact hown1); have OW := Lib.hid hw9; have HB := Lib.hid (show Below W1.heap.size W1 w1' from ((show Below W1.heap.size W1 _ from by (repeat' (first | exact HB.out | exact Below.refl _ _ | refine Below.drew ?_ | refine Below.alloc ?_ (by first | exact HB.out.size | exact Nat.le_refl _ | (simp; done) | (have := HB.out.size; simp at this ⊢; omega)) _ | refine Below.setCell ?_ (by first | exact Nat.le_refl _ | exact HB1.out | (simp; done) | (simp; omega)) _)))).grown hgrow1 (show Below W1.heap.size W1 _ from by (repeat' (first | exact HB.out | exact Below.refl _ _ | refine Below.drew ?_ | refine Below.alloc ?_ (by first | exact HB.out.size | exact Nat.le_refl _ | (simp; done) | (have := HB.out.size; simp at this ⊢; omega)) _ | refine Below.setCell ?_ (by first | exact Nat.le_refl _ | exact HB1.out | (simp; done) | (simp; omega)) _))).size (fun q hq => by simp [Value.ownBlock] at hq; omega)); have HB1 := Lib.hid HB.out.size; clear hown1 hgrow1 hnil1 hat1 hw9)
        | (refine step_appendC (by rfl) _ _ 22 (by rfl) W1.heap.size 26 (.int .u16 0) 1 2 Try.underlying22 u16info rfl (by omega) (.slice (some ⟨W1.heap.size + 1, 0, none⟩) 0 0) 0 [] (by rfl) ?_ A n c (wcells d.slots) (by rfl) ?_ ?_ (wcells_one _) ?_ ?_ ?_ ?_; (exact own_nil16' W1 _); (rw [wcells_length, Nat.mul_one]; exact HL.out); exact (S1.out.rd.keep (show Below W1.heap.size W1 _ from by (repeat' (first | exact HB.out | exact Below.refl _ _ | refine Below.drew ?_ | refine Below.alloc ?_ (by first | exact HB.out.size | exact Nat.le_refl _ | (simp; done) | (have := HB.out.size; simp at this ⊢; omega)) _ | refine Below.setCell ?_ (by first | exact Nat.le_refl _ | exact HB1.out | (simp; done) | (simp; omega)) _)))).2; (have := HNM.out; simp only [maxLen]; omega); (have := HNM.out; omega); exact (show Below W1.heap.size W1 _ from by (repeat' (first | exact HB.out | exact Below.refl _ _ | refine Below.drew ?_ | refine Below.alloc ?_ (by first | exact HB.out.size | exact Nat.le_refl _ | (simp; done) | (have := HB.out.size; simp at this ⊢; omega)) _ | refine Below.setCell ?_ (by first | exact Nat.le_refl _ | exact HB1.out | (simp; done) | (simp; omega)) _))).size; intro v1 w1' hown1 hgrow1 hnil1 hat1; obtain ⟨A9, c9, rfl, hw9⟩ := own_OwnW (l := d.slots) (n := n) (by rw [Nat.zero_add] at hown1; exact hown1); have OW := Lib.hid hw9; have NE : Hid (∀ a, 0 < n → A9 = some a → a.block ≠ W1.heap.size) := Lib.hid (fun a _ ha => by rw [ha] at hat1; simp [Value.ownBlock] at hat1; omega); have m4 : MemC w1' (W1.heap.size) 0 [.int .u8 0, .slice none 0 0] := (MemC.grown (M := W1.heap.size + 1) (by first | exact ((MemC.new W1 [.int .u8 0, .slice none 0 0] 24).keep ((Below.refl _ _).alloc (Nat.le_refl _) (.cells #[] 26))) | exact MemC.drew (by have := ((MemC.new W1 [.int .u8 0, .slice none 0 0] 24).keep ((Below.refl _ _).alloc (Nat.le_refl _) (.cells #[] 26))); simpa using this)) hgrow1 (by simp)); have M4 := Lib.hid m4; obtain ⟨k0, kf0⟩ := m4.get 0 _ rfl; obtain ⟨k1, kf1⟩ := m4.get 1 _ rfl; clear m4; have HB := Lib.hid (show Below W1.heap.size W1 w1' from ((show Below W1.heap.size W1 _ from by (repeat' (first | exact HB.out | exact Below.refl _ _ | refine Below.drew ?_ | refine Below.alloc ?_ (by first | exact HB.out.size | exact Nat.le_refl _ | (simp; done) | (have := HB.out.size; simp at this ⊢; omega)) _ | refine Below.setCell ?_ (by first | exact Nat.le_refl _ | exact HB1.out | (simp; done) | (simp; omega)) _)))).grown hgrow1 (show Below W1.heap.size W1 _ from by (repeat' (first | exact HB.out | exact Below.refl _ _ | refine Below.drew ?_ | refine Below.alloc ?_ (by first | exact HB.out.size | exact Nat.le_refl _ | (simp; done) | (have := HB.out.size; simp at this ⊢; omega)) _ | refine Below.setCell ?_ (by first | exact Nat.le_refl _ | exact HB1.out | (simp; done) | (simp; omega)) _))).size (fun q hq => by simp [Value.ownBlock] at hq; omega)); have HB1 := Lib.hid HB.out.size; clear hown1 hgrow1 hnil1 hat1 hw9)
        | (refine step_appendC (by rfl) _ _ 22 (by rfl) W1.heap.size 26 (.int .u16 0) 1 2 Try.underlying22 u16info rfl (by omega) (.slice (some ⟨W1.heap.size, 0, none⟩) 0 0) 0 [] (by rfl) ?_ A n c (wcells d.slots) (by rfl) ?_ ?_ (wcells_one _) ?_ ?_ ?_ ?_; (exact (own_nil16 W1).alloc _); (rw [wcells_length, Nat.mul_one]; exact HL.out); exact (S1.out.rd.keep (show Below W1.heap.size W1 _ from by (repeat' (first | exact HB.out | exact Below.refl _ _ | refine Below.drew ?_ | refine Below.alloc ?_ (by first | exact HB.out.size | exact Nat.le_refl _ | (simp; done) | (have := HB.out.size; simp at this ⊢; omega)) _ | refine Below.setCell ?_ (by first | exact Nat.le_refl _ | exact HB1.out | (simp; done) | (simp; omega)) _)))).2; (have := HNM.out; simp only [maxLen]; omega); (have := HNM.out; omega); exact (show Below W1.heap.size W1 _ from by (repeat' (first | exact HB.out | exact Below.refl _ _ | refine Below.drew ?_ | refine Below.alloc ?_ (by first | exact HB.out.size | exact Nat.le_refl _ | (simp; done) | (have := HB.out.size; simp at this ⊢; omega)) _ | refine Below.setCell ?_ (by first | exact Nat.le_refl _ | exact HB1.out | (simp; done) | (simp; omega)) _))).size; intro v1 w1' hown1 hgrow1 hnil1 hat1; obtain ⟨A9, c9, rfl, hw9⟩ := own_OwnW (l := d.slots) (n := n) (by rw [Nat.zero_add] at hown1; exact hown1); have OW := Lib.hid hw9; have NE : Hid (∀ a, 0 < n → A9 = some a → a.block ≠ W1.heap.size + 1) := Lib.hid (fun a _ ha => by rw [ha] at hat1; simp [Value.ownBlock] at hat1; omega); have m4 : MemC w1' (W1.heap.size + 1) 0 [.int .u8 0, .slice none 0 0] := (MemC.grown (M := W1.heap.size) (by first | exact (MemC.new (W1.alloc (.cells #[] 26)) [.int .u8 0, .slice none 0 0] 24) | exact MemC.drew (by have := (MemC.new (W1.alloc (.cells #[] 26)) [.int .u8 0, .slice none 0 0] 24); simpa using this)) hgrow1 (by simp)); have M4 := Lib.hid m4; obtain ⟨k0, kf0⟩ := m4.get 0 _ rfl; obtain ⟨k1, kf1⟩ := m4.get 1 _ rfl; clear m4; have HB := Lib.hid (show Below W1.heap.size W1 w1' from ((show Below W1.heap.size W1 _ from by (repeat' (first | exact HB.out | exact Below.refl _ _ | refine Below.drew ?_ | refine Below.alloc ?_ (by first | exact HB.out.size | exact Nat.le_refl _ | (simp; done) | (have := HB.out.size; simp at this ⊢; omega)) _ | refine Below.setCell ?_ (by first | exact Nat.le_refl _ | exact HB1.out | (simp; done) | (simp; omega)) _)))).grown hgrow1 (show Below W1.heap.size W1 _ from by (repeat' (first | exact HB.out | exact Below.refl _ _ | refine Below.drew ?_ | refine Below.alloc ?_ (by first | exact HB.out.size | exact Nat.le_refl _ | (simp; done) | (have := HB.out.size; simp at this ⊢; omega)) _ | refine Below.setCell ?_ (by first | exact Nat.le_refl _ | exact HB1.out | (simp; done) | (simp; omega)) _))).size (fun q hq => by simp [Value.ownBlock] at hq; omega)); have HB1 := Lib.hid HB.out.size; clear hown1 hgrow1 hnil1 hat1 hw9)
        | (go_at_call 11; have _m := M4; (first | (with_reducible refine (of_agg d _ n _ w1').mono ?_) | (with_reducible refine (of_agg d _ n _ w1'.drew).mono ?_)); rintro e u9 ⟨rfl, hb⟩; clear k0 kf0 k1 kf1 _m; have m5 := M4.out.keep ((show Below w1'.heap.size w1' _ from by (repeat' (first | exact Below.refl _ _ | refine Below.drew ?_ | refine Below.alloc ?_ (Nat.le_refl _) _))).trans (hb.mono (by first | exact Nat.le_refl _ | simp))); have M5 := Lib.hid m5; have NE5 := NE; obtain ⟨k0, kf0⟩ := m5.get 0 _ rfl; obtain ⟨k1, kf1⟩ := m5.get 1 _ rfl; have HB := Lib.hid (show Below W1.heap.size W1 u9 from below_then (show Below W1.heap.size W1 _ from by (repeat' (first | exact HB.out | exact Below.refl _ _ | refine Below.drew ?_ | refine Below.alloc ?_ (by first | exact HB.out.size | exact Nat.le_refl _ | (simp; done) | (have := HB.out.size; simp at this ⊢; omega)) _ | refine Below.setCell ?_ (by first | exact Nat.le_refl _ | exact HB1.out | (simp; done) | (simp; omega)) _))) hb (Nat.le_refl _)); have O3 := Lib.hid (OW.out.keep ((show Below w1'.heap.size w1' _ from by (repeat' (first | exact Below.refl _ _ | refine Below.drew ?_ | refine Below.alloc ?_ (Nat.le_refl _) _))).trans (hb.mono (by first | exact Nat.le_refl _ | simp)))); clear hb m5)
        | (go_at_call 11; (first | (with_reducible refine (of_agg d _ n _ (w1'.alloc (.cells #[.int .u8 0, .slice none 0 0] 24))).mono ?_) | (with_reducible refine (of_agg d _ n _ (w1'.alloc (.cells #[.int .u8 0, .slice none 0 0] 24)).drew).mono ?_)); rintro e u9 ⟨rfl, hb⟩; have m5 : MemC u9 w1'.heap.size 0 [.int .u8 0, .slice none 0 0] := (by first | exact (MemC.new w1' [.int .u8 0, .slice none 0 0] 24).keep hb | exact (MemC.new w1' [.int .u8 0, .slice none 0 0] 24).drew.keep hb); have M5 := Lib.hid m5; have NE5 : Hid (∀ a, 0 < n → A9 = some a → a.block ≠ w1'.heap.size) := Lib.hid (fun a h0 => own_ne OW.out (Nat.ne_of_gt h0) a); obtain ⟨k0, kf0⟩ := m5.get 0 _ rfl; obtain ⟨k1, kf1⟩ := m5.get 1 _ rfl; have HB := Lib.hid (show Below W1.heap.size W1 u9 from below_then (show Below W1.heap.size W1 _ from by (repeat' (first | exact HB.out | exact Below.refl _ _ | refine Below.drew ?_ | refine Below.alloc ?_ (by first | exact HB.out.size | exact Nat.le_refl _ | (simp; done) | (have := HB.out.size; simp at this ⊢; omega)) _ | refine Below.setCell ?_ (by first | exact Nat.le_refl _ | exact HB1.out | (simp; done) | (simp; omega)) _))) hb (Nat.le_refl _)); have O3 := Lib.hid (OW.out.keep ((show Below w1'.heap.size w1' _ from by (repeat' (first | exact Below.refl _ _ | refine Below.drew ?_ | refine Below.alloc ?_ (Nat.le_refl _) _))).trans (hb.mono (by first | exact Nat.le_refl _ | simp)))); clear hb m5)
        | (go_at_call 11; (first | (with_reducible refine (of_agg d _ n _ w1').mono ?_) | (with_reducible refine (of_agg d _ n _ w1'.drew).mono ?_)); rintro e u9 ⟨rfl, hb⟩; have HB := Lib.hid (show Below W1.heap.size W1 u9 from below_then (show Below W1.heap.size W1 _ from by (repeat' (first | exact HB.out | exact Below.refl _ _ | refine Below.drew ?_ | refine Below.alloc ?_ (by first | exact HB.out.size | exact Nat.le_refl _ | (simp; done) | (have := HB.out.size; simp at this ⊢; omega)) _ | refine Below.setCell ?_ (by first | exact Nat.le_refl _ | exact HB1.out | (simp; done) | (simp; omega)) _))) hb (Nat.le_refl _)); have O3 := Lib.hid (OW.out.keep ((show Below w1'.heap.size w1' _ from by (repeat' (first | exact Below.refl _ _ | refine Below.drew ?_ | refine Below.alloc ?_ (Nat.le_refl _) _))).trans (hb.mono (by first | exact Nat.le_refl _ | simp)))); clear hb)))
    all_goals
      go_wp2_with fail
      go_meet
      case rel =>
        first
          | exact ⟨u9.heap.size, A9, c9, rfl, MemC.new u9 [.int .u8 (d.depth.toNat : Int), .slice A9 n c9] 24, O3.out.keep ((Below.refl _ _).alloc (Nat.le_refl _) _), HB.out.size, HB.out.alloc HB.out.size _⟩
          | exact ⟨W1.heap.size, A9, c9, rfl, (M5.out.setAt 0 (by simp) (.int .u8 (d.depth.toNat : Int))).setAt 1 (by simp) (.slice A9 n c9), O3.out.only ((Only.set u9 (W1.heap.size) (W1.heap.size) 0 (.int .u8 (d.depth.toNat : Int))).trans (Only.set _ (W1.heap.size) (W1.heap.size) 1 (.slice A9 n c9))) (fun h0 a ha => ⟨NE5.out a h0 ha, NE5.out a h0 ha⟩), (Nat.le_refl _), HB.out.trans (((Only.set u9 (W1.heap.size) (W1.heap.size) 0 (.int .u8 (d.depth.toNat : Int))).trans (Only.set _ (W1.heap.size) (W1.heap.size) 1 (.slice A9 n c9))).below (Nat.le_refl _) (Nat.le_refl _))⟩
          | exact ⟨W1.heap.size + 1, A9, c9, rfl, (M5.out.setAt 0 (by simp) (.int .u8 (d.depth.toNat : Int))).setAt 1 (by simp) (.slice A9 n c9), O3.out.only ((Only.set u9 (W1.heap.size + 1) (W1.heap.size + 1) 0 (.int .u8 (d.depth.toNat : Int))).trans (Only.set _ (W1.heap.size + 1) (W1.heap.size + 1) 1 (.slice A9 n c9))) (fun h0 a ha => ⟨NE5.out a h0 ha, NE5.out a h0 ha⟩), (Nat.le_succ _), HB.out.trans (((Only.set u9 (W1.heap.size + 1) (W1.heap.size + 1) 0 (.int .u8 (d.depth.toNat : Int))).trans (Only.set _ (W1.heap.size + 1) (W1.heap.size + 1) 1 (.slice A9 n c9))).below (Nat.le_succ _) (Nat.le_succ _))⟩
          | exact ⟨w1'.heap.size, A9, c9, rfl, (M5.out.setAt 0 (by simp) (.int .u8 (d.depth.toNat : Int))).setAt 1 (by simp) (.slice A9 n c9), O3.out.only ((Only.set u9 (w1'.heap.size) (w1'.heap.size) 0 (.int .u8 (d.depth.toNat : Int))).trans (Only.set _ (w1'.heap.size) (w1'.heap.size) 1 (.slice A9 n c9))) (fun h0 a ha => ⟨NE5.out a h0 ha, NE5.out a h0 ha⟩), HB1.out, HB.out.trans (((Only.set u9 (w1'.heap.size) (w1'.heap.size) 0 (.int .u8 (d.depth.toNat : Int))).trans (Only.set _ (w1'.heap.size) (w1'.heap.size) 1 (.slice A9 n c9))).below HB1.out HB1.out)⟩
  case rest =>
    generalize wc = Y0 at *
    obtain ⟨P, A9, c9, rfl, mP, hOW, hP, hb⟩ := hcut
    have SD := Lib.hid (S1.out.keep hb)
    have SX := Lib.hid (Q1.out.keep hb)
    have SP : Hid (BoxD Y0 P d A9 n c9) := Lib.hid ⟨mP, hOW.1⟩
    have BY := Lib.hid (B1.out.trans (hb.mono B1.out.size))
    clear a0 a1 mP hOW hP hb hi1
    have G0 := Lib.hid (Below.refl Y0.heap.size Y0)
    obtain ⟨a0, a1⟩ := (SD.out.keep G0.out).cells
    obtain ⟨p0, p1⟩ := (SP.out.keep G0.out).cells
    obtain ⟨x0, _⟩ := (SX.out.keep G0.out).get 0 _ rfl
    obtain ⟨x1, _⟩ := (SX.out.keep G0.out).get 1 _ rfl
    obtain ⟨x2, _⟩ := (SX.out.keep G0.out).get 2 _ rfl
    obtain ⟨x3, _⟩ := (SX.out.keep G0.out).get 3 _ rfl
    obtain ⟨x4, _⟩ := (SX.out.keep G0.out).get 4 _ rfl
    go_wp2_with fail
    rw [dval_eq]
    refine (HA1.out _ _ _ _ (SP.out.keep G0.out).rd HNX.out).mono ?_
    rintro e w4 ⟨rfl, hb⟩
    have G1 := Lib.hid (G0.out.trans (hb.mono G0.out.size))
    clear hb
    clear a0 a1 p0 p1 x0 x1 x2 x3 x4
    unfold dval
    obtain ⟨a0, a1⟩ := (SD.out.keep G1.out).cells
    obtain ⟨p0, p1⟩ := (SP.out.keep G1.out).cells
    obtain ⟨x0, _⟩ := (SX.out.keep G1.out).get 0 _ rfl
    obtain ⟨x1, _⟩ := (SX.out.keep G1.out).get 1 _ rfl
    obtain ⟨x2, _⟩ := (SX.out.keep G1.out).get 2 _ rfl
    obtain ⟨x3, _⟩ := (SX.out.keep G1.out).get 3 _ rfl
    obtain ⟨x4, _⟩ := (SX.out.keep G1.out).get 4 _ rfl
    go_wp2_with fail
    rw [dval_eq]
    refine (HA2.out _ _ _ _ (SD.out.keep G1.out).rd HNX.out).mono ?_
    rintro e w5 ⟨rfl, hb⟩
    have G2 := Lib.hid (G1.out.trans (hb.mono G1.out.size))
    clear hb
    clear a0 a1 p0 p1 x0 x1 x2 x3 x4
    unfold dval
    obtain ⟨a0, a1⟩ := (SD.out.keep G2.out).cells
    obtain ⟨p0, p1⟩ := (SP.out.keep G2.out).cells
    obtain ⟨x0, _⟩ := (SX.out.keep G2.out).get 0 _ rfl
    obtain ⟨x1, _⟩ := (SX.out.keep G2.out).get 1 _ rfl
    obtain ⟨x2, _⟩ := (SX.out.keep G2.out).get 2 _ rfl
    obtain ⟨x3, _⟩ := (SX.out.keep G2.out).get 3 _ rfl
    obtain ⟨x4, _⟩ := (SX.out.keep G2.out).get 4 _ rfl
    go_wp2_with fail
    rw [dval_eq]
    refine (HB1.out _ _ _ _ (SP.out.keep G2.out).rd HNX.out).mono ?_
    rintro e w6 ⟨A_b1, n_b1, c_b1, rfl, hr, hm_b1, hb⟩
    have G3 := Lib.hid (G2.out.trans (hb.mono G2.out.size))
    have Lb1 := Lib.hid hr
    clear hr
    clear hb
    clear a0 a1 p0 p1 x0 x1 x2 x3 x4
    unfold dval
    obtain ⟨a0, a1⟩ := (SD.out.keep G3.out).cells
    obtain ⟨p0, p1⟩ := (SP.out.keep G3.out).cells
    obtain ⟨x0, _⟩ := (SX.out.keep G3.out).get 0 _ rfl
    obtain ⟨x1, _⟩ := (SX.out.keep G3.out).get 1 _ rfl
    obtain ⟨x2, _⟩ := (SX.out.keep G3.out).get 2 _ rfl
    obtain ⟨x3, _⟩ := (SX.out.keep G3.out).get 3 _ rfl
    obtain ⟨x4, _⟩ := (SX.out.keep G3.out).get 4 _ rfl
    go_wp2_with fail
    rw [dval_eq]
    refine (HD1.out _ _ _ _ (SP.out.keep G3.out).rd HNX.out).mono ?_
    rintro e w7 ⟨rfl, hb⟩
    have G4 := Lib.hid (G3.out.trans (hb.mono G3.out.size))
    have Lb1_4 := Lib.hid (Lb1.out.keep hb)
    clear hb
    clear a0 a1 p0 p1 x0 x1 x2 x3 x4
    unfold dval
    obtain ⟨a0, a1⟩ := (SD.out.keep G4.out).cells
    obtain ⟨p0, p1⟩ := (SP.out.keep G4.out).cells
    obtain ⟨x0, _⟩ := (SX.out.keep G4.out).get 0 _ rfl
    obtain ⟨x1, _⟩ := (SX.out.keep G4.out).get 1 _ rfl
    obtain ⟨x2, _⟩ := (SX.out.keep G4.out).get 2 _ rfl
    obtain ⟨x3, _⟩ := (SX.out.keep G4.out).get 3 _ rfl
    obtain ⟨x4, _⟩ := (SX.out.keep G4.out).get 4 _ rfl
    go_wp2_with fail
    rw [dval_eq]
    refine (HB2.out _ _ _ _ (SD.out.keep G4.out).rd HNX.out).mono ?_
    rintro e w8 ⟨A_b2, n_b2, c_b2, rfl, hr, hm_b2, hb⟩
    have G5 := Lib.hid (G4.out.trans (hb.mono G4.out.size))
    have Lb1_5 := Lib.hid (Lb1_4.out.keep hb)
    have Lb2 := Lib.hid hr
    clear hr
    clear hb
    clear a0 a1 p0 p1 x0 x1 x2 x3 x4
    unfold dval
    have SD9 := Lib.hid (SD.out.keep G5.out)
    have SP9 := Lib.hid (SP.out.keep G5.out)
    have HS := Lib.hid (fun w' (hb : Below w8.heap.size w8 w') => show (w'.cell? ⟨w.heap.size, 0, none⟩ = some (.int .u8 (d.depth.toNat : Int)) ∧ w'.cell? ⟨w.heap.size, 1, none⟩ = some (.slice A n c)) ∧ (w'.cell? ⟨P, 0, none⟩ = some (.int .u8 (d.depth.toNat : Int)) ∧ w'.cell? ⟨P, 1, none⟩ = some (.slice A9 n c9)) from ⟨(SD9.out.keep hb).cells, (SP9.out.keep hb).cells⟩)
    have HB := Lib.hid (Below.refl w8.heap.size w8)
    obtain ⟨⟨a0, a1⟩, p0, p1⟩ := HS.out w8 (Below.refl _ _)
    cases rB
    all_goals
      go_upto_region 9 with fail
      go_cut [111] from 76 (fun s111 wx => s111 = .bool false ∧ Below w8.heap.size w8 wx)
      case first =>
        go_region_held3 (fun w' => (w'.cell? ⟨w.heap.size, 0, none⟩ = some (.int .u8 (d.depth.toNat : Int)) ∧ w'.cell? ⟨w.heap.size, 1, none⟩ = some (.slice A n c)) ∧ (w'.cell? ⟨P, 0, none⟩ = some (.int .u8 (d.depth.toNat : Int)) ∧ w'.cell? ⟨P, 1, none⟩ = some (.slice A9 n c9)))
          ((refine HS.out _ ?_; (repeat' (first | exact HB.out | exact Below.refl _ _ | refine Below.drew ?_))))
          ((first
            | (go_at_call 17; refine (HR1.out _ A9 n c9 ((SP9.out.keep (show Below w8.heap.size w8 _ from by (repeat' (first | exact HB.out | exact Below.refl _ _ | refine Below.drew ?_)))).rd) HNX.out).mono ?_; rintro e w' ⟨rfl, hb⟩; have HB := Lib.hid (show Below w8.heap.size w8 w' from below_then (by (repeat' (first | exact HB.out | exact Below.refl _ _ | refine Below.drew ?_))) hb (Nat.le_refl _)); clear hb)
            | (go_at_call 18; refine (HR2.out _ A n c ((SD9.out.keep (show Below w8.heap.size w8 _ from by (repeat' (first | exact HB.out | exact Below.refl _ _ | refine Below.drew ?_)))).rd) HNX.out).mono ?_; rintro e w' ⟨rfl, hb⟩; have HB := Lib.hid (show Below w8.heap.size w8 w' from below_then (by (repeat' (first | exact HB.out | exact Below.refl _ _ | refine Below.drew ?_))) hb (Nat.le_refl _)); clear hb)
            | (go_at_call 19; refine (eqplaces_any A_b1 A_b2 n_b1 n_b2 c_b1 c_b2 l l _ (Lb1_5.out.keep (show Below w8.heap.size w8 _ from by (repeat' (first | exact HB.out | exact Below.refl _ _ | refine Below.drew ?_)))) (Lb2.out.keep (show Below w8.heap.size w8 _ from by (repeat' (first | exact HB.out | exact Below.refl _ _ | refine Below.drew ?_)))) hm_b1 hm_b2).mono ?_; rintro e w' ⟨rfl, hq⟩; rw [show sameI l l = true from sameI_iff.2 rfl]; have HB := Lib.hid (show Below w8.heap.size w8 w' from below_then (by (repeat' (first | exact HB.out | exact Below.refl _ _ | refine Below.drew ?_))) hq.below (Nat.le_refl _)); clear hq)))
        all_goals
          go_wp2_with fail
          go_meet
          case rel => exact ⟨rfl, by (repeat' (first | exact HB.out | exact Below.refl _ _ | refine Below.drew ?_))⟩
      case rest =>
        generalize wc = w9 at *
        obtain ⟨rfl, hb⟩ := hcut
        clear a0 a1 p0 p1 HS HB
        have G6 := Lib.hid (G5.out.trans (hb.mono G5.out.size))
        clear hb
        obtain ⟨a0, a1⟩ := (SD.out.keep G6.out).cells
        obtain ⟨p0, p1⟩ := (SP.out.keep G6.out).cells
        obtain ⟨x0, _⟩ := (SX.out.keep G6.out).get 0 _ rfl
        obtain ⟨x1, _⟩ := (SX.out.keep G6.out).get 1 _ rfl
        obtain ⟨x2, _⟩ := (SX.out.keep G6.out).get 2 _ rfl
        obtain ⟨x3, _⟩ := (SX.out.keep G6.out).get 3 _ rfl
        obtain ⟨x4, _⟩ := (SX.out.keep G6.out).get 4 _ rfl
        go_wp2_with fail
        rw [dval_eq]
        refine (HP1.out _ _ _ _ (SP.out.keep G6.out).rd HNX.out).mono ?_
        rintro e w10 ⟨A_p1, n_p1, c_p1, rfl, hr, hm_p1, hb⟩
        have G7 := Lib.hid (G6.out.trans (hb.mono G6.out.size))
        obtain ⟨Vp1, hV⟩ : ∃ W : World, W = w10.alloc (.cells #[.int .u8 (dP.depth.toNat : Int), .slice A_p1 n_p1 c_p1] 24) := ⟨_, rfl⟩
        have bV : Below w10.heap.size w10 Vp1 := by rw [hV]; exact (Below.refl _ _).alloc (Nat.le_refl _) _
        have Kp1 : Hid (BoxD Vp1 w10.heap.size dP A_p1 n_p1 c_p1) := Lib.hid (by rw [hV]; exact BoxD.new w10 dP _ _ _ hr)
        have HWV := Lib.hid hV
        clear hb hV hr
        have hb := bV
        have G8 := Lib.hid (G7.out.trans (hb.mono G7.out.size))
        clear hb bV
        clear a0 a1 p0 p1 x0 x1 x2 x3 x4
        unfold dval
        go_upto_region 12 with fail
        rw [← HWV.out]
        clear HWV
        obtain ⟨a0, a1⟩ := (SD.out.keep G8.out).cells
        obtain ⟨p0, p1⟩ := (SP.out.keep G8.out).cells
        obtain ⟨x0, _⟩ := (SX.out.keep G8.out).get 0 _ rfl
        obtain ⟨x1, _⟩ := (SX.out.keep G8.out).get 1 _ rfl
        obtain ⟨x2, _⟩ := (SX.out.keep G8.out).get 2 _ rfl
        obtain ⟨x3, _⟩ := (SX.out.keep G8.out).get 3 _ rfl
        obtain ⟨x4, _⟩ := (SX.out.keep G8.out).get 4 _ rfl
        go_wp2_with fail
        rw [dval_eq]
        refine (HP2.out _ _ _ _ (SD.out.keep G8.out).rd HNX.out).mono ?_
        rintro e w11 ⟨A_p2, n_p2, c_p2, rfl, hr, hm_p2, hb⟩
        have G9 := Lib.hid (G8.out.trans (hb.mono G8.out.size))
        have Kp1_9 := Lib.hid (Kp1.out.keep hb)
        obtain ⟨Vp2, hV⟩ : ∃ W : World, W = w11.alloc (.cells #[.int .u8 (dP.depth.toNat : Int), .slice A_p2 n_p2 c_p2] 24) := ⟨_, rfl⟩
        have bV : Below w11.heap.size w11 Vp2 := by rw [hV]; exact (Below.refl _ _).alloc (Nat.le_refl _) _
        have Kp2 : Hid (BoxD Vp2 w11.heap.size dP A_p2 n_p2 c_p2) := Lib.hid (by rw [hV]; exact BoxD.new w11 dP _ _ _ hr)
        have HWV := Lib.hid hV
        clear hb hV hr
        have hb := bV
        have G10 := Lib.hid (G9.out.trans (hb.mono G9.out.size))
        have Kp1_10 := Lib.hid (Kp1_9.out.keep hb)
        clear hb bV
        clear a0 a1 p0 p1 x0 x1 x2 x3 x4
        unfold dval
        go_upto_region 13 with fail
        rw [← HWV.out]
        clear HWV
        obtain ⟨a0, a1⟩ := (SD.out.keep G10.out).cells
        obtain ⟨p0, p1⟩ := (SP.out.keep G10.out).cells
        obtain ⟨x0, _⟩ := (SX.out.keep G10.out).get 0 _ rfl
        obtain ⟨x1, _⟩ := (SX.out.keep G10.out).get 1 _ rfl
        obtain ⟨x2, _⟩ := (SX.out.keep G10.out).get 2 _ rfl
        obtain ⟨x3, _⟩ := (SX.out.keep G10.out).get 3 _ rfl
        obtain ⟨x4, _⟩ := (SX.out.keep G10.out).get 4 _ rfl
        go_wp2_with fail
        rw [dval_eq]
        refine (HX1.out _ _ _ _ (SP.out.keep G10.out).rd HNX.out).mono ?_
        rintro e w12 ⟨A_x1, n_x1, c_x1, rfl, hr, hm_x1, hb⟩
        have G11 := Lib.hid (G10.out.trans (hb.mono G10.out.size))
        have Kp1_11 := Lib.hid (Kp1_10.out.keep hb)
        have Kp2_11 := Lib.hid (Kp2.out.keep hb)
        obtain ⟨Vx1, hV⟩ : ∃ W : World, W = w12.alloc (.cells #[.int .u8 (dX.depth.toNat : Int), .slice A_x1 n_x1 c_x1] 24) := ⟨_, rfl⟩
        have bV : Below w12.heap.size w12 Vx1 := by rw [hV]; exact (Below.refl _ _).alloc (Nat.le_refl _) _
        have Kx1 : Hid (BoxD Vx1 w12.heap.size dX A_x1 n_x1 c_x1) := Lib.hid (by rw [hV]; exact BoxD.new w12 dX _ _ _ hr)
        have HWV := Lib.hid hV
        clear hb hV hr
        have hb := bV
        have G12 := Lib.hid (G11.out.trans (hb.mono G11.out.size))
        have Kp1_12 := Lib.hid (Kp1_11.out.keep hb)
        have Kp2_12 := Lib.hid (Kp2_11.out.keep hb)
        clear hb bV
        clear a0 a1 p0 p1 x0 x1 x2 x3 x4
        unfold dval
        go_upto_region 14 with fail
        rw [← HWV.out]
        clear HWV
        obtain ⟨a0, a1⟩ := (SD.out.keep G12.out).cells
        obtain ⟨p0, p1⟩ := (SP.out.keep G12.out).cells
        obtain ⟨x0, _⟩ := (SX.out.keep G12.out).get 0 _ rfl
        obtain ⟨x1, _⟩ := (SX.out.keep G12.out).get 1 _ rfl
        obtain ⟨x2, _⟩ := (SX.out.keep G12.out).get 2 _ rfl
        obtain ⟨x3, _⟩ := (SX.out.keep G12.out).get 3 _ rfl
        obtain ⟨x4, _⟩ := (SX.out.keep G12.out).get 4 _ rfl
        go_wp2_with fail
        rw [dval_eq]
        refine (HX2.out _ _ _ _ (SD.out.keep G12.out).rd HNX.out).mono ?_
        rintro e w13 ⟨A_x2, n_x2, c_x2, rfl, hr, hm_x2, hb⟩
        have G13 := Lib.hid (G12.out.trans (hb.mono G12.out.size))
        have Kp1_13 := Lib.hid (Kp1_12.out.keep hb)
        have Kp2_13 := Lib.hid (Kp2_12.out.keep hb)
        have Kx1_13 := Lib.hid (Kx1.out.keep hb)
        obtain ⟨Vx2, hV⟩ : ∃ W : World, W = w13.alloc (.cells #[.int .u8 (dX.depth.toNat : Int), .slice A_x2 n_x2 c_x2] 24) := ⟨_, rfl⟩
        have bV : Below w13.heap.size w13 Vx2 := by rw [hV]; exact (Below.refl _ _).alloc (Nat.le_refl _) _
        have Kx2 : Hid (BoxD Vx2 w13.heap.size dX A_x2 n_x2 c_x2) := Lib.hid (by rw [hV]; exact BoxD.new w13 dX _ _ _ hr)
        have HWV := Lib.hid hV
        clear hb hV hr
        have hb := bV
        have G14 := Lib.hid (G13.out.trans (hb.mono G13.out.size))
        have Kp1_14 := Lib.hid (Kp1_13.out.keep hb)
        have Kp2_14 := Lib.hid (Kp2_13.out.keep hb)
        have Kx1_14 := Lib.hid (Kx1_13.out.keep hb)
        clear hb bV
        clear a0 a1 p0 p1 x0 x1 x2 x3 x4
        unfold dval
        go_upto_region 15 with fail
        rw [← HWV.out]
        clear HWV
        obtain ⟨a0, a1⟩ := (SD.out.keep G14.out).cells
        obtain ⟨p0, p1⟩ := (SP.out.keep G14.out).cells
        obtain ⟨x0, _⟩ := (SX.out.keep G14.out).get 0 _ rfl
        obtain ⟨x1, _⟩ := (SX.out.keep G14.out).get 1 _ rfl
        obtain ⟨x2, _⟩ := (SX.out.keep G14.out).get 2 _ rfl
        obtain ⟨x3, _⟩ := (SX.out.keep G14.out).get 3 _ rfl
        obtain ⟨x4, _⟩ := (SX.out.keep G14.out).get 4 _ rfl
        go_wp2_with fail
        rw [dval_eq]
        refine (HH1.out _ _ _ _ (SP.out.keep G14.out).rd HNX.out).mono ?_
        rintro e w14 ⟨A_h1, n_h1, c_h1, rfl, hr, hm_h1, hb⟩
        have G15 := Lib.hid (G14.out.trans (hb.mono G14.out.size))
        have Kp1_15 := Lib.hid (Kp1_14.out.keep hb)
        have Kp2_15 := Lib.hid (Kp2_14.out.keep hb)
        have Kx1_15 := Lib.hid (Kx1_14.out.keep hb)
        have Kx2_15 := Lib.hid (Kx2.out.keep hb)
        obtain ⟨Vh1, hV⟩ : ∃ W : World, W = w14.alloc (.cells #[.int .u8 (dH.depth.toNat : Int), .slice A_h1 n_h1 c_h1] 24) := ⟨_, rfl⟩
        have bV : Below w14.heap.size w14 Vh1 := by rw [hV]; exact (Below.refl _ _).alloc (Nat.le_refl _) _
        have Kh1 : Hid (BoxD Vh1 w14.heap.size dH A_h1 n_h1 c_h1) := Lib.hid (by rw [hV]; exact BoxD.new w14 dH _ _ _ hr)
        have HWV := Lib.hid hV
        clear hb hV hr
        have hb := bV
        have G16 := Lib.hid (G15.out.trans (hb.mono G15.out.size))
        have Kp1_16 := Lib.hid (Kp1_15.out.keep hb)
        have Kp2_16 := Lib.hid (Kp2_15.out.keep hb)
        have Kx1_16 := Lib.hid (Kx1_15.out.keep hb)
        have Kx2_16 := Lib.hid (Kx2_15.out.keep hb)
        clear hb bV
        clear a0 a1 p0 p1 x0 x1 x2 x3 x4
        unfold dval
        go_upto_region 16 with fail
        rw [← HWV.out]
        clear HWV
        obtain ⟨a0, a1⟩ := (SD.out.keep G16.out).cells
        obtain ⟨p0, p1⟩ := (SP.out.keep G16.out).cells
        obtain ⟨x0, _⟩ := (SX.out.keep G16.out).get 0 _ rfl
        obtain ⟨x1, _⟩ := (SX.out.keep G16.out).get 1 _ rfl
        obtain ⟨x2, _⟩ := (SX.out.keep G16.out).get 2 _ rfl
        obtain ⟨x3, _⟩ := (SX.out.keep G16.out).get 3 _ rfl
        obtain ⟨x4, _⟩ := (SX.out.keep G16.out).get 4 _ rfl
        go_wp2_with fail
        rw [dval_eq]
        refine (HH2.out _ _ _ _ (SD.out.keep G16.out).rd HNX.out).mono ?_
        rintro e w15 ⟨A_h2, n_h2, c_h2, rfl, hr, hm_h2, hb⟩
        have G17 := Lib.hid (G16.out.trans (hb.mono G16.out.size))
        have Kp1_17 := Lib.hid (Kp1_16.out.keep hb)
        have Kp2_17 := Lib.hid (Kp2_16.out.keep hb)
        have Kx1_17 := Lib.hid (Kx1_16.out.keep hb)
        have Kx2_17 := Lib.hid (Kx2_16.out.keep hb)
        have Kh1_17 := Lib.hid (Kh1.out.keep hb)
        obtain ⟨Vh2, hV⟩ : ∃ W : World, W = w15.alloc (.cells #[.int .u8 (dH.depth.toNat : Int), .slice A_h2 n_h2 c_h2] 24) := ⟨_, rfl⟩
        have bV : Below w15.heap.size w15 Vh2 := by rw [hV]; exact (Below.refl _ _).alloc (Nat.le_refl _) _
        have Kh2 : Hid (BoxD Vh2 w15.heap.size dH A_h2 n_h2 c_h2) := Lib.hid (by rw [hV]; exact BoxD.new w15 dH _ _ _ hr)
        have HWV := Lib.hid hV
        clear hb hV hr
        have hb := bV
        have G18 := Lib.hid (G17.out.trans (hb.mono G17.out.size))
        have Kp1_18 := Lib.hid (Kp1_17.out.keep hb)
        have Kp2_18 := Lib.hid (Kp2_17.out.keep hb)
        have Kx1_18 := Lib.hid (Kx1_17.out.keep hb)
        have Kx2_18 := Lib.hid (Kx2_17.out.keep hb)
        have Kh1_18 := Lib.hid (Kh1_17.out.keep hb)
        clear hb bV
        clear a0 a1 p0 p1 x0 x1 x2 x3 x4
        unfold dval
        go_upto_region 17 with fail
        rw [← HWV.out]
        clear HWV
        obtain ⟨a0, a1⟩ := (SD.out.keep G18.out).cells
        obtain ⟨p0, p1⟩ := (SP.out.keep G18.out).cells
        obtain ⟨x0, _⟩ := (SX.out.keep G18.out).get 0 _ rfl
        obtain ⟨x1, _⟩ := (SX.out.keep G18.out).get 1 _ rfl
        obtain ⟨x2, _⟩ := (SX.out.keep G18.out).get 2 _ rfl
        obtain ⟨x3, _⟩ := (SX.out.keep G18.out).get 3 _ rfl
        obtain ⟨x4, _⟩ := (SX.out.keep G18.out).get 4 _ rfl
        go_wp2_with fail
        refine (HU1.out _).mono ?_
        rintro e w16 ⟨rfl, hb⟩
        have G19 := Lib.hid (G18.out.trans (hb.mono G18.out.size))
        have Kp1_19 := Lib.hid (Kp1_18.out.keep hb)
        have Kp2_19 := Lib.hid (Kp2_18.out.keep hb)
        have Kx1_19 := Lib.hid (Kx1_18.out.keep hb)
        have Kx2_19 := Lib.hid (Kx2_18.out.keep hb)
        have Kh1_19 := Lib.hid (Kh1_18.out.keep hb)
        have Kh2_19 := Lib.hid (Kh2.out.keep hb)
        clear hb
        clear a0 a1 p0 p1 x0 x1 x2 x3 x4
        obtain ⟨a0, a1⟩ := (SD.out.keep G19.out).cells
        obtain ⟨p0, p1⟩ := (SP.out.keep G19.out).cells
        obtain ⟨x0, _⟩ := (SX.out.keep G19.out).get 0 _ rfl
        obtain ⟨x1, _⟩ := (SX.out.keep G19.out).get 1 _ rfl
        obtain ⟨x2, _⟩ := (SX.out.keep G19.out).get 2 _ rfl
        obtain ⟨x3, _⟩ := (SX.out.keep G19.out).get 3 _ rfl
        obtain ⟨x4, _⟩ := (SX.out.keep G19.out).get 4 _ rfl
        go_wp2_with fail
        refine (HU2.out _).mono ?_
        rintro e w17 ⟨rfl, hb⟩
        have G20 := Lib.hid (G19.out.trans (hb.mono G19.out.size))
        have Kp1_20 := Lib.hid (Kp1_19.out.keep hb)
        have Kp2_20 := Lib.hid (Kp2_19.out.keep hb)
        have Kx1_20 := Lib.hid (Kx1_19.out.keep hb)
        have Kx2_20 := Lib.hid (Kx2_19.out.keep hb)
        have Kh1_20 := Lib.hid (Kh1_19.out.keep hb)
        have Kh2_20 := Lib.hid (Kh2_19.out.keep hb)
        clear hb
        clear a0 a1 p0 p1 x0 x1 x2 x3 x4
        obtain ⟨m0, k0⟩ := Kp1_20.out.cells
        obtain ⟨m1, k1⟩ := Kp2_20.out.cells
        go_wp2_with fail
        rw [dval_eq, dval_eq]
        refine (same_any dP dP A_p1 A_p2 n_p1 n_p2 c_p1 c_p2 _ Kp1_20.out.rd Kp2_20.out.rd hm_p1 hm_p2).mono ?_
        rintro e w18 ⟨rfl, hb⟩
        rw [sameD_iff.2 rfl]
        have G21 := Lib.hid (G20.out.trans (hb.mono G20.out.size))
        have Kp1_21 := Lib.hid (Kp1_20.out.keep hb)
        have Kp2_21 := Lib.hid (Kp2_20.out.keep hb)
        have Kx1_21 := Lib.hid (Kx1_20.out.keep hb)
        have Kx2_21 := Lib.hid (Kx2_20.out.keep hb)
        have Kh1_21 := Lib.hid (Kh1_20.out.keep hb)
        have Kh2_21 := Lib.hid (Kh2_20.out.keep hb)
        clear hb m0 m1 k0 k1
        unfold dval
        obtain ⟨m0, k0⟩ := Kx1_21.out.cells
        obtain ⟨m1, k1⟩ := Kx2_21.out.cells
        go_wp2_with fail
        rw [dval_eq, dval_eq]
        refine (same_any dX dX A_x1 A_x2 n_x1 n_x2 c_x1 c_x2 _ Kx1_21.out.rd Kx2_21.out.rd hm_x1 hm_x2).mono ?_
        rintro e w19 ⟨rfl, hb⟩
        rw [sameD_iff.2 rfl]
        have G22 := Lib.hid (G21.out.trans (hb.mono G21.out.size))
        have Kp1_22 := Lib.hid (Kp1_21.out.keep hb)
        have Kp2_22 := Lib.hid (Kp2_21.out.keep hb)
        have Kx1_22 := Lib.hid (Kx1_21.out.keep hb)
        have Kx2_22 := Lib.hid (Kx2_21.out.keep hb)
        have Kh1_22 := Lib.hid (Kh1_21.out.keep hb)
        have Kh2_22 := Lib.hid (Kh2_21.out.keep hb)
        clear hb m0 m1 k0 k1
        unfold dval
        obtain ⟨m0, k0⟩ := Kh1_22.out.cells
        obtain ⟨m1, k1⟩ := Kh2_22.out.cells
        go_wp2_with fail
        rw [dval_eq, dval_eq]
        refine (same_any dH dH A_h1 A_h2 n_h1 n_h2 c_h1 c_h2 _ Kh1_22.out.rd Kh2_22.out.rd hm_h1 hm_h2).mono ?_
        rintro e w20 ⟨rfl, hb⟩
        rw [sameD_iff.2 rfl]
        have G23 := Lib.hid (G22.out.trans (hb.mono G22.out.size))
        have Kp1_23 := Lib.hid (Kp1_22.out.keep hb)
        have Kp2_23 := Lib.hid (Kp2_22.out.keep hb)
        have Kx1_23 := Lib.hid (Kx1_22.out.keep hb)
        have Kx2_23 := Lib.hid (Kx2_22.out.keep hb)
        have Kh1_23 := Lib.hid (Kh1_22.out.keep hb)
        have Kh2_23 := Lib.hid (Kh2_22.out.keep hb)
        clear hb m0 m1 k0 k1
        unfold dval
        obtain ⟨m0, k0⟩ := (SP.out.keep G23.out).cells
        obtain ⟨m1, k1⟩ := (SD.out.keep G23.out).cells
        go_wp2_with fail
        rw [dval_eq, dval_eq]
        refine (same_any d d A9 A n n c9 c _ (SP.out.keep G23.out).rd (SD.out.keep G23.out).rd HNX.out HNX.out).mono ?_
        rintro e w21 ⟨rfl, hb⟩
        rw [sameD_iff.2 rfl]
        have G24 := Lib.hid (G23.out.trans (hb.mono G23.out.size))
        have Kp1_24 := Lib.hid (Kp1_23.out.keep hb)
        have Kp2_24 := Lib.hid (Kp2_23.out.keep hb)
        have Kx1_24 := Lib.hid (Kx1_23.out.keep hb)
        have Kx2_24 := Lib.hid (Kx2_23.out.keep hb)
        have Kh1_24 := Lib.hid (Kh1_23.out.keep hb)
        have Kh2_24 := Lib.hid (Kh2_23.out.keep hb)
        clear hb m0 m1 k0 k1
        unfold dval
        go_wp2_with fail
        refine (awake_any _).mono ?_
        rintro e wz ⟨rfl, hb⟩
        have BZ := Lib.hid (BY.out.trans ((G24.out.trans (hb.mono G24.out.size)).mono BY.out.size))
        go_wp2_with fail
        go_ret
        exact ⟨rfl, BZ.out⟩

end Go.Proofs.Ytlkmcjjdjbdihaa
