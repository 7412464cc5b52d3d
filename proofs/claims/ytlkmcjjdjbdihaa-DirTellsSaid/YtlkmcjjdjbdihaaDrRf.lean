/-
  The document's directories that are made: a slice in a variable of its own, appended to.
-/
import Derived.Test.YtlkmcjjdjbdihaaDrRe
import Derived.Test.YtlkmcjjdjbdihaaDrLWr
namespace Go.Proofs.Ytlkmcjjdjbdihaa
open Go.RowKit Go.Maps
set_option linter.unusedVariables false

theorem grown_of_drew {X Y : World} {r : Option Nat} (h : X.drew.grownBy Y r) : X.grownBy Y r := ⟨h.1, h.2, h.3, h.4, h.5⟩

def outD (d : Dir) (E : Int) : Dir := if E = 0 then d else zeroD
/-- What comes back: a directory, or nothing; the error. -/
def RetV (w w' : World) (d : Dir) (E : Int) (e : Ending) : Prop := ∃ A n c, e = .returned (.tuple #[dval (outD d E) A n c, .int .i64 E]) ∧ ReadsW w' A n (outD d E).slots ∧ n ≤ maxLen ∧ Below w.heap.size w w'
theorem retv_zero {w w' : World} {d : Dir} {E : Int} (hE : E ≠ 0) (hb : Below w.heap.size w w') : RetV w w' d E (.returned (.tuple #[dzero, .int .i64 E])) := by
  refine ⟨none, 0, 0, ?_, ?_, Nat.zero_le _, hb⟩
  · unfold outD
    rw [if_neg hE]
    rfl
  · unfold outD
    rw [if_neg hE]
    exact ReadsW.nil _ _
theorem retv_of {w w' : World} {d : Dir} {E : Int} {e : Ending} (h : RetD w w' d E e) : RetV w w' d E e := by
  rcases h with ⟨rfl, v, rfl, g, c, rfl, hg, hm, h1, h2, hb⟩ | ⟨h0, rfl, hb⟩
  · exact ⟨_, _, c, rfl, hm.readsW, Nat.le_trans h1 h2, hb⟩
  · exact retv_zero h0 hb

/-- A directory's variable at X0's end, whose slots are appended to. -/
structure OutS (X0 w : World) (D : Int) (v : Value) (l : List UInt16) : Prop where
  mem : MemC w X0.heap.size 0 [.int .u8 D, v]
  row : w.ownsRow (X0.heap.size + 1) 26 1 v l.length (wcells l)
  bel : Below X0.heap.size X0 w
theorem OutS.new (X0 : World) (D : Int) : OutS X0 (X0.alloc (.cells #[.int .u8 D, .slice none 0 0] 24)) D (.slice none 0 0) [] :=
  ⟨MemC.new X0 [.int .u8 D, .slice none 0 0] _, World.ownsRow_nil _ _ _ _, (Below.refl _ _).alloc (Nat.le_refl _) _⟩
theorem OutS.dN {X0 w : World} {D : Int} {v : Value} {l : List UInt16} (h : OutS X0 w D v l) (k : Nat) : OutS X0 (w.drewN k) D v l := ⟨h.mem.drewN k, h.row, below_dN h.bel k⟩
theorem OutS.app {X0 w w3 : World} {D : Int} {v v' : Value} {l k : List UInt16} {m : Nat} {o : Obj} (h : OutS X0 w D v l) (hm : k.length = m) (hown : w3.ownsRow (X0.heap.size + 1) 26 1 v' (l.length + m) (wcells l ++ wcells k)) (hg : (w.alloc o).grownBy w3 v.ownBlock) :
    MemC w3 X0.heap.size 0 [.int .u8 D, v] ∧ OutS X0 (w3.setCell ⟨X0.heap.size, 1, none⟩ v') D v' (l ++ k) := by
  have hlt := h.mem.at_.lt
  have hb : Below (X0.heap.size + 1) w w3 := ((Below.refl (X0.heap.size + 1) w).alloc hlt o).grown hg (by simp; omega) (own_base h.row)
  have hm3 := h.mem.below hb (Nat.lt_succ_self _)
  refine ⟨hm3, hm3.setAt 1 (by simp) v', ?_, ?_⟩
  · rw [List.length_append, hm, wcells_append]
    exact own_only hown (Only.set w3 X0.heap.size X0.heap.size 1 v') (Nat.lt_succ_self _) (Nat.lt_succ_self _)
  · exact (h.bel.trans (hb.mono (Nat.le_succ _))).trans ((Only.set w3 X0.heap.size X0.heap.size 1 v').below (Nat.le_refl _) (Nat.le_refl _))
/-- What stands in the result's cells at the end. -/
theorem OutS.ret {w X0 wr wx : World} {D : Int} {v : Value} {d : Dir} {R : Nat} (h : OutS X0 wr D v d.slots) (hb : Below wr.heap.size wr wx) (hB : Below w.heap.size w X0) (hD : (d.depth.toNat : Int) = D) (hR : w.heap.size ≤ R) (hR2 : R < X0.heap.size) :
    RetV w ((wx.setCell ⟨R, 0, none⟩ (.int .u8 D)).setCell ⟨R, 1, none⟩ v) d 0 (.returned (.tuple #[.agg #[.int .u8 D, v], .int .i64 0])) := by
  have ho := (Only.set wx R R 0 (.int .u8 D)).trans (Only.set _ R R 1 v)
  have hrow := own_only (own_keep h.row hb) ho (by omega) (by omega)
  obtain ⟨A, c, rfl, hr, h1, h2⟩ := own_readsW hrow
  refine ⟨A, _, c, ?_, hr, Nat.le_trans h1 h2, (hB.trans ((h.bel.trans (hb.mono h.bel.size)).mono hB.size)).trans (ho.below hR hR)⟩
  show _ = Ending.returned (.tuple #[.agg #[.int .u8 (d.depth.toNat : Int), _], _])
  rw [hD]
theorem OutS.reads {X0 w : World} {D : Int} {v : Value} {l : List UInt16} (h : OutS X0 w D v l) : ∃ A c, v = .slice A l.length c ∧ ReadsW w A l.length l ∧ l.length ≤ maxLen := by
  obtain ⟨A, c, e, hr, h1, h2⟩ := own_readsW h.row
  exact ⟨A, c, e, hr, Nat.le_trans h1 h2⟩

theorem told_all {l : List UInt16} {n : Nat} (h : l.length = n) : toldL (at_ l) n = l := by
  refine list_at (by rw [toldL_length, h]) fun i hi => ?_
  rw [toldL_length] at hi
  exact at_told _ _ _ hi

end Go.Proofs.Ytlkmcjjdjbdihaa
