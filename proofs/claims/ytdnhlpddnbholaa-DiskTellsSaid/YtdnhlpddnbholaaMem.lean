/-
  Words for memory: a slice of bytes that reads as a list; a stretch of a block that holds bytes and may be written; what a writer leaves.
-/
import Derived.WalkKit
import Derived.WalkSpells
import Derived.WalkLawsBesides
import Derived.Laws.OwnMore
import Derived.Deep.Draws
import Derived.Lib.Hide
import Derived.Outline
namespace Go.Proofs.Ytdnhlpddnbholaa
open Go.RowKit
set_option linter.unusedVariables false

theorem ret_int {k : IntKind} {a b : Int} (h : a = b) : Ending.returned (.int k a) = .returned (.int k b) := by rw [h]
theorem vint {k : IntKind} {a b : Int} (h : a = b) : Value.int k a = .int k b := by rw [h]

/-- The slice '.slice A n c' reads as the bytes l. -/
def Reads8 (w : World) (A : Option Addr) (n : Nat) (l : List UInt8) : Prop :=
  l.length = n ∧ (0 < n → ∃ b o, A = some ⟨b, o, none⟩ ∧ b < w.heap.size ∧ ∀ j (h : j < l.length), w.cell? ⟨b, o + j, none⟩ = some (.int .u8 (l[j].toNat : Int)))

theorem Reads8.nil (w : World) (A : Option Addr) : Reads8 w A 0 [] := ⟨rfl, fun h => absurd h (Nat.lt_irrefl _)⟩

theorem Reads8.keep {w w' : World} {A : Option Addr} {n : Nat} {l : List UInt8} (h : Reads8 w A n l) (hb : Below w.heap.size w w') : Reads8 w' A n l :=
  ⟨h.1, fun hn => by
    obtain ⟨b, o, e, hlt, hc⟩ := h.2 hn
    exact ⟨b, o, e, Nat.lt_of_lt_of_le hlt hb.size, fun j hj => (hb.cell (p := ⟨b, o + j, none⟩) hlt).trans (hc j hj)⟩⟩

/-- The stretch of n cells from o on of block b holds the bytes l, and may be written. -/
structure Mem8 (w : World) (b o n : Nat) (l : List UInt8) : Prop where
  len : l.length = n
  lt : b < w.heap.size
  cell : ∀ j (h : j < l.length), w.cell? ⟨b, o + j, none⟩ = some (.int .u8 (l[j].toNat : Int))
  free : ∀ j, j < l.length → w.frozen? ⟨b, o + j, none⟩ = false

theorem Mem8.reads {w : World} {b o n : Nat} {l : List UInt8} (h : Mem8 w b o n l) : Reads8 w (some ⟨b, o, none⟩) n l :=
  ⟨h.len, fun _ => ⟨b, o, rfl, h.lt, h.cell⟩⟩

theorem Mem8.below {w w' : World} {b o n B : Nat} {l : List UInt8} (h : Mem8 w b o n l) (hb : Below B w w') (hB : b < B) : Mem8 w' b o n l :=
  ⟨h.len, Nat.lt_of_lt_of_le h.lt hb.size, fun j hj => (hb.cell (p := ⟨b, o + j, none⟩) hB).trans (h.cell j hj), fun j hj => (hb.frozen (p := ⟨b, o + j, none⟩) hB).trans (h.free j hj)⟩

theorem Mem8.keep {w w' : World} {b o n : Nat} {l : List UInt8} (h : Mem8 w b o n l) (hb : Below w.heap.size w w') : Mem8 w' b o n l := h.below hb h.lt

theorem Mem8.drew {w : World} {b o n : Nat} {l : List UInt8} (h : Mem8 w b o n l) : Mem8 w.drew b o n l := ⟨h.len, h.lt, h.cell, h.free⟩
theorem Mem8.drewN {w : World} {b o n : Nat} {l : List UInt8} (h : Mem8 w b o n l) (k : Nat) : Mem8 (w.drewN k) b o n l := ⟨h.len, h.lt, h.cell, h.free⟩
theorem Reads8.drewN {w : World} {A : Option Addr} {n : Nat} {l : List UInt8} (h : Reads8 w A n l) (k : Nat) : Reads8 (w.drewN k) A n l := ⟨h.1, h.2⟩

/-- A part of a stretch. -/
theorem Mem8.sub {w : World} {b o n : Nat} {l : List UInt8} (h : Mem8 w b o n l) (k m : Nat) (hk : k + m ≤ n) : Mem8 w b (o + k) m ((l.drop k).take m) := by
  have hl := h.len
  refine ⟨by simp; omega, h.lt, fun j hj => ?_, fun j hj => ?_⟩
  · have hj' : j < m := by simp at hj; omega
    rw [Nat.add_assoc, h.cell (k + j) (by omega)]
    simp [List.getElem_take, List.getElem_drop]
  · have hj' : j < m := by simp at hj; omega
    rw [Nat.add_assoc]
    exact h.free (k + j) (by omega)

theorem Reads8.sub {w : World} {b o n : Nat} {l : List UInt8} (h : Reads8 w (some ⟨b, o, none⟩) n l) (k m : Nat) (hk : k + m ≤ n) (hn : 0 < n) : Reads8 w (some ⟨b, o + k, none⟩) m ((l.drop k).take m) := by
  have hl := h.1
  obtain ⟨b', o', e, hlt, hc⟩ := h.2 hn
  injection e with e
  injection e with e1 e2
  subst e1; subst e2
  refine ⟨by simp; omega, fun _ => ⟨b, o + k, rfl, hlt, fun j hj => ?_⟩⟩
  have hj' : j < m := by simp at hj; omega
  rw [Nat.add_assoc, hc (k + j) (by omega)]
  simp [List.getElem_take, List.getElem_drop]

/-- w' is w but for cells lo to hi of block b. -/
structure Wrote (w w' : World) (b lo hi : Nat) : Prop where
  os : w'.os = w.os
  tape : w'.tape = w.tape
  output : w'.output = w.output
  size : w'.heap.size = w.heap.size
  other : ∀ k, k ≠ b → w'.heap[k]? = w.heap[k]?
  cell : ∀ i, ¬ (lo ≤ i ∧ i < hi) → w'.cell? ⟨b, i, none⟩ = w.cell? ⟨b, i, none⟩
  frz : ∀ a, w'.frozen? a = w.frozen? a
  blk : ∀ cs t m, w.heap[b]? = some (.cells cs t m) → ∃ cs', w'.heap[b]? = some (.cells cs' t m) ∧ cs'.size = cs.size

theorem Wrote.refl (w : World) (b lo hi : Nat) : Wrote w w b lo hi := ⟨rfl, rfl, rfl, rfl, fun _ _ => rfl, fun _ _ => rfl, fun _ => rfl, fun cs t m h => ⟨cs, h, rfl⟩⟩

theorem Wrote.trans {a w w' : World} {b lo hi : Nat} (h : Wrote a w b lo hi) (k : Wrote w w' b lo hi) : Wrote a w' b lo hi :=
  ⟨k.os.trans h.os, k.tape.trans h.tape, k.output.trans h.output, k.size.trans h.size, fun i hi => (k.other i hi).trans (h.other i hi), fun i hi => (k.cell i hi).trans (h.cell i hi), fun a => (k.frz a).trans (h.frz a),
    fun cs t m hc => by
      obtain ⟨cs1, h1, e1⟩ := h.blk cs t m hc
      obtain ⟨cs2, h2, e2⟩ := k.blk cs1 t m h1
      exact ⟨cs2, h2, e2.trans e1⟩⟩

theorem Wrote.mono {w w' : World} {b lo hi lo' hi' : Nat} (h : Wrote w w' b lo hi) (h1 : lo' ≤ lo) (h2 : hi ≤ hi') : Wrote w w' b lo' hi' :=
  ⟨h.os, h.tape, h.output, h.size, h.other, fun i hi => h.cell i (by omega), h.frz, h.blk⟩

theorem Wrote.set (w : World) (b i : Nat) (u : Value) : Wrote w (w.setCell ⟨b, i, none⟩ u) b i (i + 1) := by
  refine ⟨rfl, rfl, rfl, by simp [World.setCell], fun k hk => Below.heap_setCell _ _ _ _ hk, fun j hj => ?_, fun a => World.frozen?_setCell .., fun cs t m hc => ?_⟩
  · exact World.cell?_setCell_other w ⟨b, i, none⟩ ⟨b, j, none⟩ u (fun e => by injection e with _ e2; omega)
  · exact ⟨cs.setIfInBounds i u, by simp [World.setCell, Array.getElem?_modify, hc], by simp⟩

theorem Wrote.below {w w' : World} {b lo hi B : Nat} (h : Wrote w w' b lo hi) (hB : B ≤ b) : Below B w w' :=
  ⟨h.os, h.tape, h.output, Nat.le_of_eq h.size.symm, fun k hk => h.other k (by omega)⟩

/-- Another stretch of the block, or of another one, stays. -/
theorem Wrote.far {w w' : World} {b lo hi : Nat} (h : Wrote w w' b lo hi) {b' o n : Nat} {l : List UInt8} (hm : Mem8 w b' o n l) (hd : b' ≠ b ∨ o + n ≤ lo ∨ hi ≤ o) : Mem8 w' b' o n l := by
  have hl := hm.len
  refine ⟨hm.len, by rw [h.size]; exact hm.lt, fun j hj => ?_, fun j hj => by rw [h.frz]; exact hm.free j hj⟩
  by_cases e : b' = b
  · subst e
    rw [h.cell (o + j) (by omega)]
    exact hm.cell j hj
  · have := h.other b' e
    exact (World.cell?_of_block (w := w) (a := ⟨b', o + j, none⟩) this).trans (hm.cell j hj)

theorem Wrote.farR {w w' : World} {b lo hi : Nat} (h : Wrote w w' b lo hi) {A : Option Addr} {n : Nat} {l : List UInt8} (hm : Reads8 w A n l) (hd : ∀ a, A = some a → a.block ≠ b) : Reads8 w' A n l := by
  refine ⟨hm.1, fun hn => ?_⟩
  obtain ⟨b', o, e, hlt, hc⟩ := hm.2 hn
  refine ⟨b', o, e, by rw [h.size]; exact hlt, fun j hj => ?_⟩
  have := h.other b' (hd _ e)
  exact (World.cell?_of_block (w := w) (a := ⟨b', o + j, none⟩) this).trans (hc j hj)

/-- Two stretches side by side are one. -/
theorem Mem8.join {w : World} {b o n m : Nat} {l k : List UInt8} (h : Mem8 w b o n l) (g : Mem8 w b (o + n) m k) : Mem8 w b o (n + m) (l ++ k) := by
  have hl := h.len
  have gl := g.len
  refine ⟨by simp; omega, h.lt, fun j hj => ?_, fun j hj => ?_⟩
  · by_cases hjn : j < l.length
    · rw [h.cell j hjn, List.getElem_append_left hjn]
    · have hj2 : j - n < k.length := by simp at hj; omega
      have := g.cell (j - n) hj2
      rw [show o + n + (j - n) = o + j by omega] at this
      rw [this, List.getElem_append_right (by omega)]
      simp only [hl]
  · by_cases hjn : j < l.length
    · exact h.free j hjn
    · have hj2 : j - n < k.length := by simp at hj; omega
      have := g.free (j - n) hj2
      rwa [show o + n + (j - n) = o + j by omega] at this

/-- A stretch in which a part has been written. -/
theorem Wrote.splice {w w' : World} {b o n at_ size : Nat} {l k : List UInt8} (h : Wrote w w' b (o + at_) (o + at_ + size)) (hm : Mem8 w b o n l) (hk : Mem8 w' b (o + at_) size k) (hs : at_ + size ≤ n) :
    Mem8 w' b o n (l.take at_ ++ k ++ l.drop (at_ + size)) := by
  have hl := hm.len
  have h1 : Mem8 w b (o + 0) at_ ((l.drop 0).take at_) := hm.sub 0 at_ (by omega)
  have h2 : Mem8 w b (o + (at_ + size)) (n - (at_ + size)) ((l.drop (at_ + size)).take (n - (at_ + size))) := hm.sub (at_ + size) (n - (at_ + size)) (by omega)
  have e2 : (l.drop (at_ + size)).take (n - (at_ + size)) = l.drop (at_ + size) := List.take_of_length_le (by simp; omega)
  rw [e2] at h2
  have g1 := h.far h1 (.inr (.inl (by omega)))
  have g2 := h.far h2 (.inr (.inr (by omega)))
  have j1 := g1.join (k := k) (m := size) (by simpa using hk)
  have j2 := j1.join (k := l.drop (at_ + size)) (m := n - (at_ + size)) (by simpa [Nat.add_assoc] using g2)
  have en : at_ + size + (n - (at_ + size)) = n := by omega
  rw [en] at j2
  simpa using j2

/-- A block that is known: its cells are bytes from o on. -/
theorem Mem8.of_blk {w : World} {b o n : Nat} {l : List UInt8} {cs : Array Value} {t : TypeId} {m : Nat × Nat} (h : w.heap[b]? = some (.cells cs t m)) (hl : l.length = n)
    (hc : ∀ j (hj : j < l.length), cs[o + j]? = some (.int .u8 (l[j].toNat : Int))) (hf : o + n ≤ m.1 ∨ m.2 ≤ o) : Mem8 w b o n l := by
  refine ⟨hl, (Array.getElem?_eq_some_iff.1 h).1, fun j hj => ?_, fun j hj => ?_⟩
  · rw [cell_of_row w b (o + j) cs t m h]; exact hc j hj
  · simp [World.frozen?, h]; omega

/-- New memory that reads as the bytes l; nothing that was there has turned. -/
def Fresh8 (w w' : World) (v : Value) (l : List UInt8) : Prop :=
  ∃ g c, v = .slice (some ⟨g, 0, none⟩) l.length c ∧ w.heap.size ≤ g ∧ l.length ≤ c ∧ c ≤ maxLen ∧ Mem8 w' g 0 l.length l ∧ Below w.heap.size w w'

end Go.Proofs.Ytdnhlpddnbholaa
