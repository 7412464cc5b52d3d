/-
  Words for memory of whatever cells: a stretch that holds values; a slice that reads as values; append's law over them.
-/
import Derived.Test.YtdnhlpddnbholaaMem
import Derived.Maps.AppendAt
namespace Go.Proofs.Ytdnhlpddnbholaa
open Go.RowKit
set_option linter.unusedVariables false

/-- The cells from o on of block b hold xs. -/
structure CellsAt (w : World) (b o : Nat) (xs : List Value) : Prop where
  lt : b < w.heap.size
  cell : ∀ j (h : j < xs.length), w.cell? ⟨b, o + j, none⟩ = some xs[j]

/-- .. and may be written. -/
structure MemC (w : World) (b o : Nat) (xs : List Value) : Prop where
  at_ : CellsAt w b o xs
  free : ∀ j, j < xs.length → w.frozen? ⟨b, o + j, none⟩ = false

/-- A slice at A reads as the cells xs (whatever the address, if there are none). -/
def Cells (w : World) (A : Option Addr) (xs : List Value) : Prop := 0 < xs.length → ∃ b o, A = some ⟨b, o, none⟩ ∧ CellsAt w b o xs

theorem CellsAt.keep {w w' : World} {b o : Nat} {xs : List Value} (h : CellsAt w b o xs) (hb : Below w.heap.size w w') : CellsAt w' b o xs :=
  ⟨Nat.lt_of_lt_of_le h.lt hb.size, fun j hj => (hb.cell (p := ⟨b, o + j, none⟩) h.lt).trans (h.cell j hj)⟩
theorem MemC.keep {w w' : World} {b o : Nat} {xs : List Value} (h : MemC w b o xs) (hb : Below w.heap.size w w') : MemC w' b o xs :=
  ⟨h.at_.keep hb, fun j hj => (hb.frozen (p := ⟨b, o + j, none⟩) h.at_.lt).trans (h.free j hj)⟩
theorem Cells.keep {w w' : World} {A : Option Addr} {xs : List Value} (h : Cells w A xs) (hb : Below w.heap.size w w') : Cells w' A xs := fun h0 => by
  obtain ⟨b, o, e, hc⟩ := h h0
  exact ⟨b, o, e, hc.keep hb⟩
theorem Cells.nil (w : World) (A : Option Addr) : Cells w A [] := fun h => absurd h (by simp)
theorem MemC.cells {w : World} {b o : Nat} {xs : List Value} (h : MemC w b o xs) : Cells w (some ⟨b, o, none⟩) xs := fun _ => ⟨b, o, rfl, h.at_⟩
theorem CellsAt.cells {w : World} {b o : Nat} {xs : List Value} (h : CellsAt w b o xs) : Cells w (some ⟨b, o, none⟩) xs := fun _ => ⟨b, o, rfl, h⟩
theorem Cells.drewN {w : World} {A : Option Addr} {xs : List Value} (h : Cells w A xs) (k : Nat) : Cells (w.drewN k) A xs := fun h0 => by
  obtain ⟨b, o, e, hc⟩ := h h0
  exact ⟨b, o, e, hc.lt, hc.cell⟩
theorem MemC.drewN {w : World} {b o : Nat} {xs : List Value} (h : MemC w b o xs) (k : Nat) : MemC (w.drewN k) b o xs := ⟨⟨h.at_.lt, h.at_.cell⟩, h.free⟩
theorem MemC.drew {w : World} {b o : Nat} {xs : List Value} (h : MemC w b o xs) : MemC w.drew b o xs := ⟨⟨h.at_.lt, h.at_.cell⟩, h.free⟩

theorem CellsAt.sub {w : World} {b o : Nat} {xs : List Value} (h : CellsAt w b o xs) (k m : Nat) : CellsAt w b (o + k) ((xs.drop k).take m) :=
  ⟨h.lt, fun j hj => by
    have hj' : j < m ∧ k + j < xs.length := by simp at hj; omega
    rw [Nat.add_assoc, h.cell (k + j) hj'.2]
    simp [List.getElem_take, List.getElem_drop]⟩
theorem MemC.sub {w : World} {b o : Nat} {xs : List Value} (h : MemC w b o xs) (k m : Nat) : MemC w b (o + k) ((xs.drop k).take m) :=
  ⟨h.at_.sub k m, fun j hj => by
    have hj' : j < m ∧ k + j < xs.length := by simp at hj; omega
    rw [Nat.add_assoc]
    exact h.free _ hj'.2⟩

theorem Wrote.farC {w w' : World} {b lo hi : Nat} (h : Wrote w w' b lo hi) {b' o : Nat} {xs : List Value} (hm : MemC w b' o xs) (hd : b' ≠ b ∨ o + xs.length ≤ lo ∨ hi ≤ o) : MemC w' b' o xs := by
  refine ⟨⟨by rw [h.size]; exact hm.at_.lt, fun j hj => ?_⟩, fun j hj => by rw [h.frz]; exact hm.free j hj⟩
  by_cases e : b' = b
  · subst e
    rw [h.cell (o + j) (by omega)]
    exact hm.at_.cell j hj
  · exact (World.cell?_of_block (w := w) (a := ⟨b', o + j, none⟩) (h.other b' e)).trans (hm.at_.cell j hj)
theorem Wrote.farCs {w w' : World} {b lo hi : Nat} (h : Wrote w w' b lo hi) {A : Option Addr} {xs : List Value} (hm : Cells w A xs) (hd : 0 < xs.length → ∀ a, A = some a → a.block ≠ b) : Cells w' A xs := fun h0 => by
  obtain ⟨b', o, e, hc⟩ := hm h0
  exact ⟨b', o, e, by rw [h.size]; exact hc.lt, fun j hj => (World.cell?_of_block (w := w) (a := ⟨b', o + j, none⟩) (h.other b' (hd h0 _ e))).trans (hc.cell j hj)⟩

/-- A block that is known. -/
theorem MemC.of_blk {w : World} {b o : Nat} {xs : List Value} {cs : Array Value} {t : TypeId} {m : Nat × Nat} (h : w.heap[b]? = some (.cells cs t m))
    (hc : ∀ j (hj : j < xs.length), cs[o + j]? = some xs[j]) (hf : o + xs.length ≤ m.1 ∨ m.2 ≤ o) : MemC w b o xs := by
  refine ⟨⟨(Array.getElem?_eq_some_iff.1 h).1, fun j hj => ?_⟩, fun j hj => ?_⟩
  · rw [cell_of_row w b (o + j) cs t m h]; exact hc j hj
  · simp [World.frozen?, h]; omega
theorem MemC.new (w : World) (xs : List Value) (t : TypeId) : MemC (w.alloc (.cells xs.toArray t)) w.heap.size 0 xs :=
  MemC.of_blk (heap_alloc_new w _) (fun j hj => by simp [hj]) (.inr (by simp))

theorem MemC.of_ownC {w : World} {g n cap base s : Nat} {xs : List Value} {e : TypeId} (h : w.ownsRow base e s (.slice (some ⟨g, 0, none⟩) n cap) n xs) : MemC w g 0 xs ∧ base ≤ g ∧ n ≤ cap ∧ cap ≤ maxLen := by
  have hl := h.1
  rcases h.2 with ⟨e, _⟩ | ⟨g', cap', cur, e, hg, hh, hn, hm, hs, ht⟩
  · cases e
  · injection e with e1 _ e3
    injection e1 with e1
    injection e1 with e1
    subst e1; subst e3
    refine ⟨MemC.of_blk hh (fun j hj => ?_) (.inr (by simp)), hg, hn, hm⟩
    have e1 : cur.toList[j]? = xs[j]? := by rw [← ht, List.getElem?_take]; simp; omega
    rw [Nat.zero_add, ← Array.getElem?_toList, e1, List.getElem?_eq_getElem hj]

/-- New memory: n elements, whose cells are xs. -/
def FreshC (w w' : World) (v : Value) (n : Nat) (xs : List Value) : Prop :=
  ∃ g c, v = .slice (some ⟨g, 0, none⟩) n c ∧ w.heap.size ≤ g ∧ n ≤ c ∧ c ≤ maxLen ∧ MemC w' g 0 xs ∧ Below w.heap.size w w'

section
variable {P : Program} {w : World}
/-- 'append(s, x...)': s nil or the call's own; x cells that came in, nil, empty or not. -/
theorem wp_appendC {o : Oper} {a : Act} {K : Act → World → Prop} {Q : Exit → Act → World → Prop} (s x : Operand) (t : TypeId)
    (ho : o.op = .call { callee := .builtin .append, args := #[s, x], argTypes := #[t, t] })
    (base : Nat) (e : TypeId) (z : Value) (size bytes : Nat) (ht : P.underlying t = some (.slice e)) (hinfo : (P.info? e).map (fun i => (i.zero, i.size, i.bytes)) = some (some z, size, bytes)) (hzs : z.cells.size = size) (hsz : 0 < size)
    (v : Value) (n : Nat) (xs : List Value) (hs : a.eval s = v) (hown : w.ownsRow base e size v n xs)
    (A : Option Addr) (m c : Nat) (ys : List Value) (hx : a.eval x = .slice A m c) (hl : ys.length = m * size) (hr : Cells w A ys) (h1 : ∀ u ∈ ys, u.oneCell' = true)
    (h63 : n + m ≤ maxLen) (hb : (n + m) * bytes ≤ 140737488355328) (hbase : base ≤ w.heap.size)
    (h : ∀ v' w', w'.ownsRow base e size v' (n + m) (xs ++ ys) → w.grownBy w' v.ownBlock → (v' = .slice none 0 0 ↔ v = .slice none 0 0 ∧ m = 0) → (v'.ownBlock = v.ownBlock ∨ v'.ownBlock = some w.heap.size) → K (a.put o.dst v') w') :
    o.wp P a w K Q := by
  obtain ⟨i0, hi, hz0, hz1, hz2⟩ := info_parts hinfo
  cases A with
  | some ad =>
    obtain ⟨v', w', hrun, h2, h3, h4, h5⟩ := run_append_own_at (P := P) w base t o.type e i0 z size bytes ht hi hz0 hz1 hz2 hzs hsz v n xs hown ad m c ys hl (fun j u hj => by
      obtain ⟨hjl, rfl⟩ := List.getElem?_eq_some_iff.1 hj
      obtain ⟨b, o, e, hc⟩ := hr (by omega)
      injection e with e
      subst e
      have e2 : (⟨b, o, none⟩ : Addr).add j = ⟨b, o + j, none⟩ := by unfold Addr.add; split <;> simp_all
      rw [e2]
      exact hc.cell j hjl) h1 h63 hb hbase
    unfold Oper.wp execOp
    simp only [ho, resolve, invoke, builtin, Sem.run_bind, Sem.run_pure, Result.andThen_ok, List.map_toArray, List.map_cons, List.map_nil, hs, hx, hrun]
    exact h v' w' h2 h3 h4 h5
  | none =>
    have hm : m = 0 := by
      rcases Nat.eq_zero_or_pos m with h0 | h0
      · exact h0
      · obtain ⟨b, o, e, _⟩ := hr (by rw [hl]; exact Nat.mul_pos h0 hsz)
        cases e
    subst hm
    have hl0 : ys = [] := List.eq_nil_of_length_eq_zero (by simpa using hl)
    subst hl0
    have hrun : (Builtin.append_ #[t, t] o.type #[v, .slice none 0 c]).run P w = .ok v w := by
      rcases hown.2 with ⟨rfl, rfl⟩ | ⟨g, cap, cur, rfl, _, _, hnc, _⟩
      · simp [Builtin.append_, run_underlying ht, sizeOf, typeInfo, hi, Builtin.lenOf, Builtin.firstCells]
      · simp [Builtin.append_, run_underlying ht, sizeOf, typeInfo, hi, Builtin.lenOf, Builtin.firstCells, hnc, storeCells]
    unfold Oper.wp execOp
    simp only [ho, resolve, invoke, builtin, Sem.run_bind, Sem.run_pure, Result.andThen_ok, List.map_toArray, List.map_cons, List.map_nil, hs, hx, hrun]
    exact h v w (by simpa using hown) (World.grownBy.refl _ _) (by simp) (.inl rfl)

theorem wpList_appendC {ops : Array Oper} {rest : List Oper} {o : Oper} {a : Act} {Q : Exit → Act → World → Prop} (hgd : o.guard = none) (s x : Operand) (t : TypeId)
    (ho : o.op = .call { callee := .builtin .append, args := #[s, x], argTypes := #[t, t] })
    (base : Nat) (e : TypeId) (z : Value) (size bytes : Nat) (ht : P.underlying t = some (.slice e)) (hinfo : (P.info? e).map (fun i => (i.zero, i.size, i.bytes)) = some (some z, size, bytes)) (hzs : z.cells.size = size) (hsz : 0 < size)
    (v : Value) (n : Nat) (xs : List Value) (hs : a.eval s = v) (hown : w.ownsRow base e size v n xs)
    (A : Option Addr) (m c : Nat) (ys : List Value) (hx : a.eval x = .slice A m c) (hl : ys.length = m * size) (hr : Cells w A ys) (h1 : ∀ u ∈ ys, u.oneCell' = true)
    (h63 : n + m ≤ maxLen) (hb : (n + m) * bytes ≤ 140737488355328) (hbase : base ≤ w.heap.size)
    (h : ∀ v' w', w'.ownsRow base e size v' (n + m) (xs ++ ys) → w.grownBy w' v.ownBlock → (v' = .slice none 0 0 ↔ v = .slice none 0 0 ∧ m = 0) → (v'.ownBlock = v.ownBlock ∨ v'.ownBlock = some w.heap.size) → wpList P ops Q rest (a.put o.dst v') w') :
    wpList P ops Q (o :: rest) a w :=
  wpList_plain hgd fun _ hK => wp_appendC s x t ho base e z size bytes ht hinfo hzs hsz v n xs hs hown A m c ys hx hl hr h1 h63 hb hbase fun v' w' h1 h2 h3 h4 => hK _ _ (h v' w' h1 h2 h3 h4)

theorem step_appendC {ops : Array Oper} {o : Oper} {a : Act} {K : Act → World → Prop} {Q : Exit → Act → World → Prop} {E : Prop} (hgd : o.guard = none) (s x : Operand) (t : TypeId)
    (ho : o.op = .call { callee := .builtin .append, args := #[s, x], argTypes := #[t, t] })
    (base : Nat) (e : TypeId) (z : Value) (size bytes : Nat) (ht : P.underlying t = some (.slice e)) (hinfo : (P.info? e).map (fun i => (i.zero, i.size, i.bytes)) = some (some z, size, bytes)) (hzs : z.cells.size = size) (hsz : 0 < size)
    (v : Value) (n : Nat) (xs : List Value) (hs : a.eval s = v) (hown : w.ownsRow base e size v n xs)
    (A : Option Addr) (m c : Nat) (ys : List Value) (hx : a.eval x = .slice A m c) (hl : ys.length = m * size) (hr : Cells w A ys) (h1 : ∀ u ∈ ys, u.oneCell' = true)
    (h63 : n + m ≤ maxLen) (hb : (n + m) * bytes ≤ 140737488355328) (hbase : base ≤ w.heap.size)
    (h : ∀ v' w', w'.ownsRow base e size v' (n + m) (xs ++ ys) → w.grownBy w' v.ownBlock → (v' = .slice none 0 0 ↔ v = .slice none 0 0 ∧ m = 0) → (v'.ownBlock = v.ownBlock ∨ v'.ownBlock = some w.heap.size) → K (a.put o.dst v') w') :
    if Region.wanted o (yielded ops a.tmps) = true then Oper.wp P o a w K Q else E := by
  have hw : Region.wanted o (yielded ops a.tmps) = true := by simp [Region.wanted, hgd]
  rw [if_pos hw]
  exact wp_appendC s x t ho base e z size bytes ht hinfo hzs hsz v n xs hs hown A m c ys hx hl hr h1 h63 hb hbase h
end

theorem own_shapeC {w : World} {base n s : Nat} {e : TypeId} {v : Value} {xs : List Value} (h : w.ownsRow base e s v n xs) (hv : v ≠ .slice none 0 0) : ∃ g cap, v = .slice (some ⟨g, 0, none⟩) n cap ∧ base ≤ g ∧ n ≤ cap ∧ cap ≤ maxLen ∧ g < w.heap.size := by
  rcases h.2 with ⟨rfl, _⟩ | ⟨g, cap, cur, rfl, hg, hh, hn, hm, _⟩
  · exact absurd rfl hv
  · exact ⟨g, cap, rfl, hg, hn, hm, (Array.getElem?_eq_some_iff.1 hh).1⟩

end Go.Proofs.Ytdnhlpddnbholaa
