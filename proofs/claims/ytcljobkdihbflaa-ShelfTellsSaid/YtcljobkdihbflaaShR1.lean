/-
  catchmentref04: Bit, ahead, Right.
-/
import Derived.Test.YtcljobkdihbflaaShHp
import Derived.Test.YtcljobkdihbflaaShB
namespace Go.Proofs.Ytcljobkdihbflaa
open Go.RowKit
set_option linter.unusedVariables false
attribute [local go_sem ↓] Go.wp_at_zero Go.wp_at_succ

def bitN (x k : Nat) : Nat := x / 2 ^ (63 - k) % 2
theorem bits_step (x k : Nat) (hk : k < 64) : x / 2 ^ (64 - (k + 1)) = 2 * (x / 2 ^ (64 - k)) + bitN x k := by
  unfold bitN
  have e : (2 : Nat) ^ (64 - k) = 2 ^ (63 - k) * 2 := by rw [← Nat.pow_succ]; congr 1; omega
  rw [e, ← Nat.div_div_eq_div_mul, show 64 - (k + 1) = 63 - k by omega]
  omega
theorem bits_iff (x y : Nat) (hx : x < 2 ^ 64) (hy : y < 2 ^ 64) : ∀ d, d ≤ 64 → ((∀ k, k < d → bitN x k = bitN y k) ↔ x / 2 ^ (64 - d) = y / 2 ^ (64 - d))
  | 0, _ => by
    constructor
    · intro _
      rw [Nat.div_eq_of_lt (by simpa using hx), Nat.div_eq_of_lt (by simpa using hy)]
    · intro _ k hk
      omega
  | d + 1, hd => by
    have ih := bits_iff x y hx hy d (by omega)
    rw [bits_step x d (by omega), bits_step y d (by omega)]
    have b1 : bitN x d < 2 := Nat.mod_lt _ (by omega)
    have b2 : bitN y d < 2 := Nat.mod_lt _ (by omega)
    constructor
    · intro h
      rw [ih.1 (fun k hk => h k (by omega)), h d (by omega)]
    · intro h k hk
      have h1 : x / 2 ^ (64 - d) = y / 2 ^ (64 - d) := by omega
      rcases Nat.lt_or_eq_of_le (Nat.lt_succ_iff.1 hk) with h2 | h2
      · exact ih.2 h1 k h2
      · subst h2; omega

theorem bit_any (x k : Nat) (hx : x < 2 ^ 64) (hk : k < 64) (w : World) :
    Calls Try.prog 32 #[.int .u64 (x : Int), .int .i64 (k : Int)] w fun e w' => e = .returned (.int .i64 (bitN x k : Int)) ∧ w = w' := by
  have hki : (0 : Int) ≤ 63 - (k : Int) := by omega
  have hki2 : (63 : Int) - (k : Int) ≤ 63 := by omega
  have HX := Lib.hid hx; clear hx
  go_enter Try.func32, Try.ntmps32
  go_wp2
  go_ret
  have e1 : ((x : Int) / 2 ^ (63 - k)) = ((x / 2 ^ (63 - k) : Nat) : Int) := by simp
  have e2 : (((x / 2 ^ (63 - k) : Nat) : Int)).tmod 2 = (bitN x k : Int) := by
    unfold bitN
    generalize x / 2 ^ (63 - k) = q
    rw [Int.tmod_eq_emod_of_nonneg (by omega)]
    omega
  have b1 : bitN x k < 2 := Nat.mod_lt _ (by omega)
  refine ⟨ret_int ?_, rfl⟩
  rw [e1, e2]
  exact IntWalk.wrap64_in _ (by omega)

/-- How many of the first entries are fine, one by one. -/
def refB (l : List Ent) (d i : Nat) : Bool := okB l i && decide ((l.getD i e0).1.toNat / 2 ^ (64 - d) = (l.getD 0 e0).1.toNat / 2 ^ (64 - d))
theorem ref_all (l : List Ent) (d : Nat) : (upB l l.length && alikeB l d) = (List.range l.length).all (refB l d) := by
  rw [Bool.eq_iff_iff, Bool.and_eq_true, List.all_eq_true]
  constructor
  · rintro ⟨h1, h2⟩ i hi
    have hi := List.mem_range.1 hi
    unfold refB
    rw [upB_iff.1 h1 i hi, decide_eq_true (alike_all h1 h2 hi)]
    rfl
  · intro h
    have h1 : upB l l.length = true := upB_iff.2 fun i hi => by
      have := h i (List.mem_range.2 hi)
      unfold refB at this
      rw [Bool.and_eq_true] at this
      exact this.1
    refine ⟨h1, ?_⟩
    by_cases h0 : l.length = 0
    · have : l = [] := List.eq_nil_of_length_eq_zero h0
      subst this
      simp [alikeB]
    · have := h (l.length - 1) (List.mem_range.2 (by omega))
      unfold refB at this
      rw [Bool.and_eq_true] at this
      unfold alikeB
      exact decide_eq_true (of_decide_eq_true this.2).symm

theorem ahead_any (a b : Ent) (w : World) : Calls Try.prog 31 #[eval a, eval b] w fun e w' => e = .returned (.bool (eltB a b)) ∧ Below w.heap.size w w' := by
  have h : eltB a b = (decide ((a.1.toNat : Int) < (b.1.toNat : Int)) || (((a.1.toNat : Int) == (b.1.toNat : Int)) && decide ((a.2.toNat : Int) < (b.2.toNat : Int)))) := by
    unfold eltB
    rw [Bool.eq_iff_iff]
    simp
    omega
  rw [h]
  clear h
  unfold eval
  generalize (a.1.toNat : Int) = x1
  generalize (a.2.toNat : Int) = x2
  generalize (b.1.toNat : Int) = y1
  generalize (b.2.toNat : Int) = y2
  cases t1 : decide (x1 < y1)
  · cases t2 : (x1 == y1)
    all_goals
      go_enter Try.func31, Try.ntmps31
      go_wp2
      go_ret
      exact ⟨rfl, ((Below.refl _ w).alloc (Nat.le_refl _) _).alloc (by simp) _⟩
  · go_enter Try.func31, Try.ntmps31
    go_wp2
    go_ret
    exact ⟨rfl, ((Below.refl _ w).alloc (Nat.le_refl _) _).alloc (by simp) _⟩

end Go.Proofs.Ytcljobkdihbflaa
