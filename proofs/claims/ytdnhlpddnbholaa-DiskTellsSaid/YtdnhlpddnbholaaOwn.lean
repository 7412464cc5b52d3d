/-
  Memory that a call owns, and stores into it: cells of whatever kind.
-/
import Derived.Test.YtdnhlpddnbholaaCells
namespace Go.Proofs.Ytdnhlpddnbholaa
open Go.RowKit
set_option linter.unusedVariables false

/-- w' is w but for two blocks. -/
structure Only (w w' : World) (P g : Nat) : Prop where
  os : w'.os = w.os
  tape : w'.tape = w.tape
  output : w'.output = w.output
  size : w'.heap.size = w.heap.size
  other : ∀ k, k ≠ P → k ≠ g → w'.heap[k]? = w.heap[k]?
theorem Only.below {w w' : World} {P g B : Nat} (h : Only w w' P g) (hP : B ≤ P) (hg : B ≤ g) : Below B w w' :=
  ⟨h.os, h.tape, h.output, Nat.le_of_eq h.size.symm, fun k hk => h.other k (by omega) (by omega)⟩
theorem Only.cell {w w' : World} {P g b o : Nat} (h : Only w w' P g) (h1 : b ≠ P) (h2 : b ≠ g) : w'.cell? ⟨b, o, none⟩ = w.cell? ⟨b, o, none⟩ :=
  World.cell?_of_block (w := w) (a := ⟨b, o, none⟩) (h.other b h1 h2)
theorem Only.trans {a b c : World} {P g : Nat} (h : Only a b P g) (k : Only b c P g) : Only a c P g :=
  ⟨k.os.trans h.os, k.tape.trans h.tape, k.output.trans h.output, k.size.trans h.size, fun i h1 h2 => (k.other i h1 h2).trans (h.other i h1 h2)⟩
theorem Wrote.only {w w' : World} {g lo hi P : Nat} (h : Wrote w w' g lo hi) : Only w w' P g := ⟨h.os, h.tape, h.output, h.size, fun k _ h2 => h.other k h2⟩
theorem Only.set (w : World) (P g i : Nat) (u : Value) : Only w (w.setCell ⟨P, i, none⟩ u) P g := ⟨rfl, rfl, rfl, by simp [World.setCell], fun k h1 _ => Below.heap_setCell _ _ _ _ h1⟩

theorem MemC.other {w w' : World} {P : Nat} {xs : List Value} (h : MemC w P 0 xs) (e : w'.heap[P]? = w.heap[P]?) (hs : w'.heap.size = w.heap.size) : MemC w' P 0 xs :=
  ⟨⟨by rw [hs]; exact h.at_.lt, fun j hj => (World.cell?_of_block (w := w) (a := ⟨P, 0 + j, none⟩) e).trans (h.at_.cell j hj)⟩, fun j hj => by
    have := h.free j hj
    simp only [World.frozen?, e] at this ⊢
    exact this⟩
theorem MemC.setAt {w : World} {P : Nat} {xs : List Value} (h : MemC w P 0 xs) (i : Nat) (hi : i < xs.length) (v : Value) : MemC (w.setCell ⟨P, i, none⟩ v) P 0 (xs.set i v) := by
  refine ⟨⟨by simpa [World.setCell] using h.at_.lt, fun j hj => ?_⟩, fun j hj => ?_⟩
  · rw [Nat.zero_add]
    have hj' : j < xs.length := by simpa using hj
    have hc := h.at_.cell j hj'
    rw [Nat.zero_add] at hc
    by_cases e : i = j
    · subst e
      rw [List.getElem_set_self]
      exact World.cell?_setCell_same' _ _ _ (by rw [hc]; rfl)
    · rw [List.getElem_set_ne e]
      exact (World.cell?_setCell_other w ⟨P, i, none⟩ ⟨P, j, none⟩ v (fun e2 => by injection e2 with _ e3; exact e e3)).trans hc
  · rw [World.frozen?_setCell]
    exact h.free j (by simpa using hj)
theorem MemC.get {w : World} {P : Nat} {xs : List Value} (h : MemC w P 0 xs) (i : Nat) (v : Value) (hv : xs[i]? = some v) : w.cell? ⟨P, i, none⟩ = some v ∧ w.frozen? ⟨P, i, none⟩ = false := by
  obtain ⟨hi, rfl⟩ := List.getElem?_eq_some_iff.1 hv
  have h1 := h.at_.cell i hi
  have h2 := h.free i hi
  rw [Nat.zero_add] at h1 h2
  exact ⟨h1, h2⟩
theorem own_block {w : World} {base s n : Nat} {e : TypeId} {v : Value} {xs : List Value} (h : w.ownsRow base e s v n xs) {b : Nat} (hb : b < base) : some b ≠ v.ownBlock := by
  rcases h.2 with ⟨rfl, _⟩ | ⟨g, cap, cur, rfl, hg, _⟩
  · simp [Value.ownBlock]
  · intro e
    simp [Value.ownBlock] at e
    omega
theorem Only.frozen {w w' : World} {P g b o : Nat} (h : Only w w' P g) (h1 : b ≠ P) (h2 : b ≠ g) : w'.frozen? ⟨b, o, none⟩ = w.frozen? ⟨b, o, none⟩ := by
  simp only [World.frozen?, h.other b h1 h2]
theorem frozen_alloc_far (w : World) (o : Obj) (b i : Nat) (h : b < w.heap.size) : (w.alloc o).frozen? ⟨b, i, none⟩ = w.frozen? ⟨b, i, none⟩ :=
  ((Below.refl w.heap.size w).alloc (Nat.le_refl _) o).frozen (p := ⟨b, i, none⟩) h
theorem cell_alloc_far (w : World) (o : Obj) (b i : Nat) (h : b < w.heap.size) : (w.alloc o).cell? ⟨b, i, none⟩ = w.cell? ⟨b, i, none⟩ :=
  ((Below.refl w.heap.size w).alloc (Nat.le_refl _) o).cell (p := ⟨b, i, none⟩) h
theorem own_base {w : World} {base s n : Nat} {e : TypeId} {v : Value} {xs : List Value} (h : w.ownsRow base e s v n xs) : ∀ q, v.ownBlock = some q → base ≤ q := by
  intro q hq
  rcases h.2 with ⟨rfl, _⟩ | ⟨g, cap, cur, rfl, hg, _⟩
  · simp [Value.ownBlock] at hq
  · simp [Value.ownBlock] at hq
    omega
theorem MemC.below {w w' : World} {B P : Nat} {xs : List Value} (h : MemC w P 0 xs) (hb : Below B w w') (hP : P < B) : MemC w' P 0 xs :=
  ⟨⟨Nat.lt_of_lt_of_le h.at_.lt hb.size, fun j hj => (hb.cell (p := ⟨P, 0 + j, none⟩) hP).trans (h.at_.cell j hj)⟩, fun j hj => (hb.frozen (p := ⟨P, 0 + j, none⟩) hP).trans (h.free j hj)⟩
theorem MemC.only {w w' : World} {P g b : Nat} {xs : List Value} (h : MemC w b 0 xs) (ho : Only w w' P g) (h1 : b ≠ P) (h2 : b ≠ g) : MemC w' b 0 xs := h.other (ho.other b h1 h2) ho.size
theorem own_keep {w w' : World} {base s n : Nat} {e : TypeId} {v : Value} {xs : List Value} (h : w.ownsRow base e s v n xs) (hb : Below w.heap.size w w') : w'.ownsRow base e s v n xs :=
  ⟨h.1, h.2.imp id fun ⟨q, cap, cur, e1, hq, hh, r⟩ => ⟨q, cap, cur, e1, hq, (hb.block q (Array.getElem?_eq_some_iff.1 hh).1).trans hh, r⟩⟩
theorem own_only {w w' : World} {base s n P g : Nat} {e : TypeId} {v : Value} {xs : List Value} (h : w.ownsRow base e s v n xs) (ho : Only w w' P g) (hP : P < base) (hg : g < base) : w'.ownsRow base e s v n xs :=
  ⟨h.1, h.2.imp id fun ⟨q, cap, cur, e1, hq, hh, r⟩ => ⟨q, cap, cur, e1, hq, (ho.other q (by omega) (by omega)).trans hh, r⟩⟩
theorem own_drew {w : World} {b s n : Nat} {e : TypeId} {v : Value} {xs : List Value} (h : w.ownsRow b e s v n xs) : w.drew.ownsRow b e s v n xs := h
theorem Only.swap {w w' : World} {P g : Nat} (h : Only w w' P g) : Only w w' g P := ⟨h.os, h.tape, h.output, h.size, fun k h1 h2 => h.other k h2 h1⟩
theorem Only.of_drew {w w' : World} {P g : Nat} (h : Only w.drew w' P g) : Only w w' P g := ⟨h.os, h.tape, h.output, h.size, h.other⟩
theorem below_dN {B : Nat} {a w : World} (h : Below B a w) (k : Nat) : Below B a (w.drewN k) := ⟨h.os, h.tape, h.output, h.size, h.block⟩


end Go.Proofs.Ytdnhlpddnbholaa
