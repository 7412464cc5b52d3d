/-
  IndexRow: a row of rows in memory.
-/
import Derived.Test.YtcfamackncbndaaIdxN
import Derived.Test.YtcfamackncbndaaIdxL
namespace Go.Proofs.Ytcfamackncbndaa
open Go.RowKit
set_option linter.unusedVariables false

/-- What page r holds. -/
def chunk (l : List UInt16) (r : Nat) : List UInt16 := (l.drop (61 * r)).take 61
/-- The page that was written last, when k numbers are in. -/
def curOf (k : Nat) : Nat := (k - 1) / 61

theorem chunk_full (l : List UInt16) (k : Nat) (hk : k ≤ l.length) (h : k % 61 = 0) (h0 : 0 < k) : (l.take k).drop (61 * curOf k) = chunk l (curOf k) := by
  unfold chunk curOf
  rw [List.drop_take]
  congr 1
  omega
theorem chunk_step (l : List UInt16) (k : Nat) (hk : k < l.length) (p : Nat) (hp : 61 * p ≤ k) : (l.take (k + 1)).drop (61 * p) = (l.take k).drop (61 * p) ++ [l[k]] := by
  rw [List.take_succ_eq_append_getElem hk, List.drop_append_of_le_length (by simp; omega)]

/-- Row r is whole, and lies below M. -/
def RowDone (w : World) (G M r : Nat) (l : List UInt16) : Prop := ∃ b c, w.cell? ⟨G, r, none⟩ = some (.slice (some ⟨b, 0, none⟩) 61 c) ∧ b < M ∧ b ≠ G ∧ 61 ≤ c ∧ CellsAt w b 0 (wcells (chunk l r))

/-- The rows when k numbers are in: those ahead of the last one written are whole and lie below M, the last one is owned from M on, the others are nil. -/
structure RowsAt (w : World) (G Q k M : Nat) (l : List UInt16) : Prop where
  gl : G < M
  mw : M ≤ w.heap.size
  free : ∀ r, r < Q → w.frozen? ⟨G, r, none⟩ = false
  done : ∀ r, r < Q → r < curOf k → RowDone w G M r l
  cur : 0 < k → ∃ v, w.cell? ⟨G, curOf k, none⟩ = some v ∧ w.ownsRow M 43 1 v (k - 61 * curOf k) (wcells ((l.take k).drop (61 * curOf k)))
  rest : ∀ r, r < Q → k = 0 ∨ curOf k < r → w.cell? ⟨G, r, none⟩ = some (.slice none 0 0)

/-- .. ready for number k: its row p is owned from M on. -/
structure Ready (w : World) (G Q k M : Nat) (v : Value) (l : List UInt16) : Prop where
  gl : G < M
  mw : M ≤ w.heap.size
  free : ∀ r, r < Q → w.frozen? ⟨G, r, none⟩ = false
  done : ∀ r, r < Q → r < k / 61 → RowDone w G M r l
  cell : w.cell? ⟨G, k / 61, none⟩ = some v
  own : w.ownsRow M 43 1 v (k - 61 * (k / 61)) (wcells ((l.take k).drop (61 * (k / 61))))
  rest : ∀ r, r < Q → k / 61 < r → w.cell? ⟨G, r, none⟩ = some (.slice none 0 0)

theorem RowsAt.ready {w : World} {G Q k M : Nat} {l : List UInt16} (h : RowsAt w G Q k M l) (hk : k < l.length) (hQ : k / 61 < Q) : ∃ M' v, Ready w G Q k M' v l := by
  by_cases h0 : k = 0
  · subst h0
    refine ⟨M, .slice none 0 0, h.gl, h.mw, h.free, fun r _ hr => absurd hr (by omega), h.rest _ hQ (.inl rfl), ?_, fun r hr h1 => h.rest r hr (.inl rfl)⟩
    simpa [wcells] using World.ownsRow_nil w M 43 1
  · obtain ⟨v, hc, hown⟩ := h.cur (by omega)
    by_cases hm : k % 61 = 0
    · have hcur : curOf k + 1 = k / 61 := by unfold curOf; omega
      refine ⟨w.heap.size, .slice none 0 0, Nat.lt_of_lt_of_le h.gl h.mw, Nat.le_refl _, h.free, fun r hr1 hr2 => ?_, h.rest _ hQ (.inr (by omega)), ?_, fun r hr h1 => h.rest r hr (.inr (by omega))⟩
      · by_cases e : r = curOf k
        · subst e
          have hn : k - 61 * curOf k = 61 := by unfold curOf; omega
          rw [hn, chunk_full l k (by omega) hm (by omega)] at hown
          obtain ⟨g, cap, rfl⟩ : ∃ g cap, v = .slice (some ⟨g, 0, none⟩) 61 cap := ownsRow_succ hown
          obtain ⟨h1, h2, h3, _⟩ := MemC.of_ownC hown
          have := h.gl
          exact ⟨g, cap, hc, h1.at_.lt, by omega, h3, h1.at_⟩
        · obtain ⟨b, c, h1, h2, h3, h4, h5⟩ := h.done r hr1 (by omega)
          exact ⟨b, c, h1, Nat.lt_of_lt_of_le h2 h.mw, h3, h4, h5⟩
      · have e1 : k - 61 * (k / 61) = 0 := by omega
        have e2 : (l.take k).drop (61 * (k / 61)) = [] := by
          apply List.drop_of_length_le
          simp
          omega
        rw [e1, e2]
        exact World.ownsRow_nil w _ _ _
    · have hcur : curOf k = k / 61 := by unfold curOf; omega
      rw [hcur] at hc hown
      exact ⟨M, v, h.gl, h.mw, h.free, fun r hr1 hr2 => h.done r hr1 (by omega), hc, hown, fun r hr h1 => h.rest r hr (.inr (by omega))⟩

theorem RowDone.keep {w w' : World} {G M r : Nat} {l : List UInt16} (h : RowDone w G M r l) (hb : Below M w w') (hG : w'.cell? ⟨G, r, none⟩ = w.cell? ⟨G, r, none⟩) : RowDone w' G M r l := by
  obtain ⟨b, c, h1, h2, h3, h4, h5⟩ := h
  exact ⟨b, c, hG.trans h1, h2, h3, h4, Nat.lt_of_lt_of_le h5.lt hb.size, fun j hj => (hb.cell (p := ⟨b, 0 + j, none⟩) h2).trans (h5.cell j hj)⟩

/-- The number is appended to its row, and the row is stored. -/
theorem Ready.next {w w3 : World} {G Q k M : Nat} {v v' : Value} {l : List UInt16} (h : Ready w G Q k M v l) (hk : k < l.length) (hQ : k / 61 < Q) (hb : Below M w w3)
    (hown : w3.ownsRow M 43 1 v' (k - 61 * (k / 61) + 1) (wcells ((l.take k).drop (61 * (k / 61))) ++ [.int .u16 (l[k].toNat : Int)])) :
    RowsAt (w3.setCell ⟨G, k / 61, none⟩ v') G Q (k + 1) M l := by
  have hcur : curOf (k + 1) = k / 61 := by unfold curOf; simp
  have hG : ∀ r, w3.cell? ⟨G, r, none⟩ = w.cell? ⟨G, r, none⟩ := fun r => hb.cell (p := ⟨G, r, none⟩) h.gl
  have hS : ∀ r, r ≠ k / 61 → (w3.setCell ⟨G, k / 61, none⟩ v').cell? ⟨G, r, none⟩ = w.cell? ⟨G, r, none⟩ := fun r hr =>
    (World.cell?_setCell_other w3 ⟨G, k / 61, none⟩ ⟨G, r, none⟩ v' (fun e => by injection e with _ e2; exact hr e2.symm)).trans (hG r)
  refine ⟨h.gl, ?_, fun r hr => ?_, fun r hr1 hr2 => ?_, fun _ => ?_, fun r hr1 hr2 => ?_⟩
  · have := hb.size
    have := h.mw
    simp [World.setCell]
    omega
  · rw [World.frozen?_setCell]
    exact (hb.frozen (p := ⟨G, r, none⟩) h.gl).trans (h.free r hr)
  · rw [hcur] at hr2
    have hd := h.done r hr1 hr2
    obtain ⟨b, c, h1, h2, h3, h4, h5⟩ := hd
    refine ⟨b, c, (hS r (by omega)).trans h1, h2, h3, h4, ?_⟩
    refine ⟨by have := h5.lt; have := hb.size; simp [World.setCell]; omega, fun j hj => ?_⟩
    exact (World.cell?_setCell_other w3 ⟨G, k / 61, none⟩ ⟨b, 0 + j, none⟩ v' (fun e => by injection e with e1 _; exact h3 e1.symm)).trans ((hb.cell (p := ⟨b, 0 + j, none⟩) h2).trans (h5.cell j hj))
  · rw [hcur]
    refine ⟨v', World.cell?_setCell_same' _ _ _ (by rw [hG, h.cell]; rfl), ?_⟩
    have e1 : k + 1 - 61 * (k / 61) = k - 61 * (k / 61) + 1 := by omega
    rw [e1, chunk_step l k hk (k / 61) (by omega), wcells_append]
    exact ownsRow_setCell_below hown (a := ⟨G, k / 61, none⟩) h.gl _
  · rw [hcur] at hr2
    exact (hS r (by omega)).trans (h.rest r hr1 (by omega))

/-- All rows, when all numbers are in. -/
def AllRows (w : World) (G Q : Nat) (l : List UInt16) : Prop := ∀ r, r < Q → ∃ A m c, w.cell? ⟨G, r, none⟩ = some (.slice A m c) ∧ ReadsW w A m (chunk l r) ∧ m ≤ c ∧ 0 < m ∧ m ≤ 61

theorem RowsAt.all {w : World} {G Q M : Nat} {l : List UInt16} (h : RowsAt w G Q l.length M l) (hQ : ∀ r, r < Q → 61 * r < l.length) (hQ2 : l.length ≤ 61 * Q) : AllRows w G Q l := by
  intro r hr
  have hlr := hQ r hr
  by_cases e : r < curOf l.length
  · obtain ⟨b, c, h1, h2, h3, h4, h5⟩ := h.done r hr e
    have hcl : (chunk l r).length = 61 := by
      unfold chunk curOf at *
      simp
      omega
    exact ⟨_, 61, c, h1, ⟨hcl, h5.cells⟩, h4, by omega, Nat.le_refl _⟩
  · obtain rfl : r = curOf l.length := by unfold curOf at *; omega
    obtain ⟨v, hc, hown⟩ := h.cur (by omega)
    obtain ⟨A, c, rfl, h1, h2, _, _⟩ := own_readsW hown
    have e1 : (l.take l.length).drop (61 * curOf l.length) = chunk l (curOf l.length) := by
      unfold chunk
      rw [List.take_length, List.take_of_length_le]
      simp
      unfold curOf
      omega
    rw [e1] at h1
    refine ⟨A, _, c, hc, h1, h2, by omega, ?_⟩
    unfold curOf
    omega

end Go.Proofs.Ytcfamackncbndaa
