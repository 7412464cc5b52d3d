/-
  catchmentlaw04.wrong, awake.
-/
import Derived.Test.YtcljobkdihbflaaShG
namespace Go.Proofs.Ytcljobkdihbflaa
open Go.RowKit
set_option linter.unusedVariables false
attribute [local go_sem ↓] Go.wp_at_zero Go.wp_at_succ

theorem wrong_any (s : Shelf) (A : Option Addr) (n c : Nat) (w : World) (h : ReadsE w A n s.ents) (hn : n ≤ maxLen) (hr : rightB s = false) :
    Calls Try.prog 20 #[.int .u8 (s.depth.toNat : Int), .int .u32 (s.next.toNat : Int), .slice A n c] w fun e w' => e = .returned (.bool true) ∧ Below w.heap.size w w' := by
  have HR := Lib.hid h; clear h
  have HF := Lib.hid hr; clear hr
  have hc := encode_wrong s A n c w HR.out hn HF.out
  unfold sval at hc
  have HC := Lib.hid hc; clear hc
  generalize (s.depth.toNat : Int) = a1 at *
  generalize (s.next.toNat : Int) = b1 at *
  go_enter Try.func20, Try.ntmps20
  go_wp2_with fail
  refine HC.out.mono ?_
  rintro e w' ⟨rfl, hb⟩
  have HB := Lib.hid hb; clear hb
  go_wp2_with fail
  go_ret
  exact ⟨rfl, HB.out⟩

theorem ReadsE.of1 {w : World} {g : Nat} (x : Ent) (h0 : w.cell? ⟨g, 0, none⟩ = some (.int .u64 (x.1.toNat : Int))) (h1 : w.cell? ⟨g, 1, none⟩ = some (.int .u32 (x.2.toNat : Int))) : ReadsE w (some ⟨g, 0, none⟩) 1 [x] :=
  ⟨rfl, fun _ => ⟨g, 0, rfl, World.block_lt_of_cell? w _ h0, fun j hj => by
    rw [Nat.zero_add]
    match j, hj with
    | 0, _ => exact h0
    | 1, _ => exact h1⟩⟩
theorem ReadsE.of2 {w : World} {g : Nat} (x y : Ent) (h0 : w.cell? ⟨g, 0, none⟩ = some (.int .u64 (x.1.toNat : Int))) (h1 : w.cell? ⟨g, 1, none⟩ = some (.int .u32 (x.2.toNat : Int)))
    (h2 : w.cell? ⟨g, 2, none⟩ = some (.int .u64 (y.1.toNat : Int))) (h3 : w.cell? ⟨g, 3, none⟩ = some (.int .u32 (y.2.toNat : Int))) : ReadsE w (some ⟨g, 0, none⟩) 2 [x, y] :=
  ⟨rfl, fun _ => ⟨g, 0, rfl, World.block_lt_of_cell? w _ h0, fun j hj => by
    rw [Nat.zero_add]
    match j, hj with
    | 0, _ => exact h0
    | 1, _ => exact h1
    | 2, _ => exact h2
    | 3, _ => exact h3⟩⟩

def tenL (k : Nat) : List Ent := (List.range k).map fun i => (UInt64.ofNat i, 1)
theorem tenL_length (k : Nat) : (tenL k).length = k := by simp [tenL]
theorem tenL_succ (k : Nat) : tenL (k + 1) = tenL k ++ [(UInt64.ofNat k, 1)] := by simp [tenL, List.range_succ]

abbrev Ok2 (w : World) (b : Bool) (e : Ending) (w' : World) : Prop := e = .returned (.bool b) ∧ Below w.heap.size w w'
theorem wrong_a (g : Nat) (w : World) (h0 : w.cell? ⟨g, 0, none⟩ = some (.int .u64 1)) (h1 : w.cell? ⟨g, 1, none⟩ = some (.int .u32 1)) (h2 : w.cell? ⟨g, 2, none⟩ = some (.int .u64 9223372036854775808)) (h3 : w.cell? ⟨g, 3, none⟩ = some (.int .u32 6)) :
    Calls Try.prog 20 #[.int .u8 1, .int .u32 0, .slice (some ⟨g, 0, none⟩) 2 2] w (Ok2 w true) :=
  wrong_any ⟨1, 0, [(1, 1), (9223372036854775808, 6)]⟩ _ 2 2 w (ReadsE.of2 (1, 1) (9223372036854775808, 6) h0 h1 h2 h3) (by simp only [maxLen]; omega) (by decide +kernel)
theorem wrong_b (w : World) : Calls Try.prog 20 #[.int .u8 65, .int .u32 0, .slice none 0 0] w (Ok2 w true) :=
  wrong_any ⟨65, 0, []⟩ none 0 0 w (ReadsE.nil _ _) (by simp only [maxLen]; omega) (by decide +kernel)
theorem wrong_c (w : World) : Calls Try.prog 20 #[.int .u8 0, .int .u32 4096, .slice none 0 0] w (Ok2 w true) :=
  wrong_any ⟨0, 4096, []⟩ none 0 0 w (ReadsE.nil _ _) (by simp only [maxLen]; omega) (by decide +kernel)
theorem wrong_d (g : Nat) (w : World) (h0 : w.cell? ⟨g, 0, none⟩ = some (.int .u64 1)) (h1 : w.cell? ⟨g, 1, none⟩ = some (.int .u32 0)) :
    Calls Try.prog 20 #[.int .u8 0, .int .u32 0, .slice (some ⟨g, 0, none⟩) 1 1] w (Ok2 w true) :=
  wrong_any ⟨0, 0, [(1, 0)]⟩ _ 1 1 w (ReadsE.of1 (1, 0) h0 h1) (by simp only [maxLen]; omega) (by decide +kernel)
theorem wrong_e (g : Nat) (w : World) (h0 : w.cell? ⟨g, 0, none⟩ = some (.int .u64 1)) (h1 : w.cell? ⟨g, 1, none⟩ = some (.int .u32 1)) (h2 : w.cell? ⟨g, 2, none⟩ = some (.int .u64 1)) (h3 : w.cell? ⟨g, 3, none⟩ = some (.int .u32 1)) :
    Calls Try.prog 20 #[.int .u8 0, .int .u32 0, .slice (some ⟨g, 0, none⟩) 2 2] w (Ok2 w true) :=
  wrong_any ⟨0, 0, [(1, 1), (1, 1)]⟩ _ 2 2 w (ReadsE.of2 (1, 1) (1, 1) h0 h1 h2 h3) (by simp only [maxLen]; omega) (by decide +kernel)
theorem wrong_f (A : Option Addr) (c : Nat) (w : World) (h : ReadsE w A 10 (tenL 10)) :
    Calls Try.prog 20 #[.int .u8 0, .int .u32 0, .slice A 10 c] w (Ok2 w true) :=
  wrong_any ⟨0, 0, tenL 10⟩ A 10 c w h (by simp only [maxLen]; omega) (by
    unfold rightB
    have : decide ((tenL 10).length ≤ 9) = false := by rw [tenL_length]; rfl
    simp only [this]
    rfl)
theorem right_g (w : World) : Calls Try.prog 8 #[.agg #[.int .u8 64, .int .u32 0, .slice none 0 0]] w (Ok2 w true) :=
  right_any ⟨64, 0, []⟩ none 0 0 w (ReadsE.nil _ _) (by simp only [maxLen]; omega)

end Go.Proofs.Ytcljobkdihbflaa
