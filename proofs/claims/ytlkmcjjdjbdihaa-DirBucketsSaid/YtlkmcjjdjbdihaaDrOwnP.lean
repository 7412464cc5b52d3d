/-
  DirOwn: three slices of one's own that are written.
-/
import Derived.Test.YtlkmcjjdjbdihaaDrCopy
namespace Go.Proofs.Ytlkmcjjdjbdihaa
open Go.RowKit Go.Maps
set_option linter.unusedVariables false

/-- A slice that lies in a block of its own, from lo on and ahead of hi; or none. -/
def Mine (w : World) (lo hi : Nat) (A : Option Addr) (n : Nat) : Prop := (A = none ∧ n = 0) ∨ ∃ g xs, A = some ⟨g, 0, none⟩ ∧ lo ≤ g ∧ g < hi ∧ xs.length = n ∧ MemC w g 0 xs
theorem Mine.keep {w w' : World} {lo hi n : Nat} {A : Option Addr} (h : Mine w lo hi A n) (hb : Below w.heap.size w w') : Mine w' lo hi A n :=
  h.imp id fun ⟨g, xs, e, h1, h2, h3, h4⟩ => ⟨g, xs, e, h1, h2, h3, h4.keep hb⟩
theorem retd_mine {w w' : World} {d : Dir} {E : Int} {e : Ending} (h : RetD w w' d E e) : ∃ D A n c, e = .returned (.tuple #[.agg #[.int .u8 D, .slice A n c], .int .i64 E]) ∧ Mine w' w.heap.size w'.heap.size A n ∧ n ≤ maxLen ∧ Below w.heap.size w w' := by
  rcases h with ⟨rfl, v, rfl, g, c, rfl, hg, hm, h1, h2, hb⟩ | ⟨h0, rfl, hb⟩
  · exact ⟨_, _, _, c, rfl, .inr ⟨g, _, rfl, hg, hm.at_.lt, wcells_length _, hm⟩, Nat.le_trans h1 h2, hb⟩
  · exact ⟨_, _, _, 0, rfl, .inl ⟨rfl, rfl⟩, Nat.zero_le _, hb⟩

/-- Three such, apart from each other; what lies outside is as in X. -/
structure Three (X w : World) (L H : Nat) (lo hi : Nat → Nat) (Af : Nat → Option Addr) (nf : Nat → Nat) : Prop where
  mine : ∀ k, k < 3 → Mine w (lo k) (hi k) (Af k) (nf k)
  os : w.os = X.os
  tape : w.tape = X.tape
  output : w.output = X.output
  size : w.heap.size = X.heap.size
  out : ∀ b, b < L ∨ H ≤ b → w.heap[b]? = X.heap[b]?
theorem Three.set {X w : World} {L H : Nat} {lo hi : Nat → Nat} {Af : Nat → Option Addr} {nf : Nat → Nat} (h : Three X w L H lo hi Af nf) (hap : ∀ j k, j < 3 → k < 3 → j ≠ k → hi j ≤ lo k ∨ hi k ≤ lo j) (hin : ∀ k, k < 3 → L ≤ lo k ∧ hi k ≤ H)
    {k i : Nat} (hk : k < 3) (hi' : i < nf k) (v : Value) : ∃ g v0, Af k = some ⟨g, 0, none⟩ ∧ w.cell? ⟨g, i, none⟩ = some v0 ∧ w.frozen? ⟨g, i, none⟩ = false ∧ Three X (w.setCell ⟨g, i, none⟩ v) L H lo hi Af nf := by
  rcases h.mine k hk with ⟨_, h0⟩ | ⟨g, xs, e, h1, h2, h3, h4⟩
  · omega
  · obtain ⟨c1, c2⟩ := h4.get i _ (List.getElem?_eq_getElem (by omega))
    have ho := Only.set w g g i v
    obtain ⟨l1, l2⟩ := hin k hk
    refine ⟨g, _, e, c1, c2, fun j hj => ?_, ho.os.trans h.os, ho.tape.trans h.tape, ho.output.trans h.output, ho.size.trans h.size, fun b hb => (ho.other b (by omega) (by omega)).trans (h.out b hb)⟩
    by_cases hjk : j = k
    · subst hjk
      exact .inr ⟨g, xs.set i v, e, h1, h2, by rw [List.length_set]; exact h3, h4.setAt i (by omega) v⟩
    · rcases h.mine j hj with h5 | ⟨g', xs', e', k1, k2, k3, k4⟩
      · exact .inl h5
      · have := hap j k hj hk hjk
        exact .inr ⟨g', xs', e', k1, k2, k3, k4.only ho (by omega) (by omega)⟩
theorem Three.cell {X w : World} {L H : Nat} {lo hi : Nat → Nat} {Af : Nat → Option Addr} {nf : Nat → Nat} (h : Three X w L H lo hi Af nf) {b : Nat} (hb : b < L ∨ H ≤ b) (o : Nat) : w.cell? ⟨b, o, none⟩ = X.cell? ⟨b, o, none⟩ := by
  unfold World.cell?
  rw [h.out b hb]
theorem Three.below {X w : World} {L H : Nat} {lo hi : Nat → Nat} {Af : Nat → Option Addr} {nf : Nat → Nat} (h : Three X w L H lo hi Af nf) : Below L X w := ⟨h.os, h.tape, h.output, Nat.le_of_eq h.size.symm, fun b hb => h.out b (.inl hb)⟩

end Go.Proofs.Ytlkmcjjdjbdihaa
