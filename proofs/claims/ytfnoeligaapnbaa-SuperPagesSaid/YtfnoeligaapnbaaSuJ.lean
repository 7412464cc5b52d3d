/-
  Whole supers in a walk: loaded, stored, new, compared. super.Pick's plain law.
-/
import Derived.Test.YtfnoeligaapnbaaSuH
import Derived.Test.YtfnoeligaapnbaaSuI
namespace Go.Proofs.Ytfnoeligaapnbaa
open Go.RowKit Go.Shelf
set_option linter.unusedVariables false
set_option linter.unusedSimpArgs false

theorem setCells_size (b : Nat) : ∀ (vs : List Value) (w : World) (o : Nat), (w.setCells b o vs).heap.size = w.heap.size
  | [], w, o => rfl
  | v :: vs, w, o => (setCells_size b vs _ (o + 1)).trans (by simp [World.setCell])
theorem exec_alloc (w : World) : (Instr.alloc 27 true (.tuple #[])).run Try.prog w = .ok (.pointer (some ⟨w.heap.size, 0, none⟩)) (w.alloc (.cells (scells noS).toArray 27)) := by
  rw [noS_cells]
  kernel_rfl
theorem exec_box (w : World) (s : Sup) : (Instr.box 27 (sval s)).run Try.prog w = .ok (.pointer (some ⟨w.heap.size, 0, none⟩)) (w.alloc (.cells (scells s).toArray 27)) := by
  kernel_rfl
theorem exec_build0 (w : World) : (Instr.build 27 #[]).run Try.prog w = .ok (sval noS) w := by
  unfold sval
  rw [noS_cells]
  kernel_rfl

section
variable {ops : Array Oper} {rest : List Oper} {op op2 : Oper} {a : Act} {w : World} {Q : Exit → Act → World → Prop}
theorem wl_load (x : Operand) (ho : op.op = .load 27 x) (hw : Region.wanted op (yielded ops a.tmps) = true) (B : Nat) (s : Sup) (hx : a.eval x = .pointer (some ⟨B, 0, none⟩)) (hm : MemC w B 0 (scells s))
    (h : wpList Try.prog ops Q rest (a.put op.dst (sval s)) w) : wpList Try.prog ops Q (op :: rest) a w :=
  BigFrame.wpList_want hw fun K hK => wp_load_mid 27 x ho B 0 hx (scells s) _ hm.range Try.underlying27 rfl (supinfo s) (hK _ _ h)

theorem wl_store (x y : Operand) (ho : op.op = .store 27 x y) (hw : Region.wanted op (yielded ops a.tmps) = true) (B : Nat) (s0 s : Sup) (hx : a.eval x = .pointer (some ⟨B, 0, none⟩)) (hy : a.eval y = sval s) (hm : MemC w B 0 (scells s0))
    (h : ∀ W, But B w W → MemC W B 0 (scells s) → wpList Try.prog ops Q rest (a.put op.dst undef) W) : wpList Try.prog ops Q (op :: rest) a w := by
  have hi : (Try.prog.info? 27).map (·.size) = some (scells s).toArray.size := by simpa using supinfo s
  refine BigFrame.wpList_want hw fun K hK => wp_store_mid 27 x y ho B 0 (scells s).toArray hx hy (hm.there (by simp [scells_length])) hi (all_oneCell_toArray (scells_one s)) (hK _ _ ?_)
  rw [List.toList_toArray]
  exact h _ ⟨(setCells_size _ _ _ _), (below_setCells (Nat.le_refl B) (scells s) w 0).os, (below_setCells (Nat.le_refl B) (scells s) w 0).tape, (below_setCells (Nat.le_refl B) (scells s) w 0).output, fun j hj => heap_setCells _ _ _ _ _ hj⟩ (hm.setS s)

theorem wl_alloc (ho : op.op = .alloc 27) (hw : Region.wanted op (yielded ops a.tmps) = true)
    (h : ∀ W, Below w.heap.size w W → MemC W w.heap.size 0 (scells noS) → W.heap.size = w.heap.size + 1 → wpList Try.prog ops Q rest (a.put op.dst (.pointer (some ⟨w.heap.size, 0, none⟩))) W) : wpList Try.prog ops Q (op :: rest) a w := by
  refine BigFrame.wpList_want hw fun K hK => ?_
  unfold Oper.wp execOp
  simp only [ho, Sem.run_bind, exec_alloc, Result.andThen_ok, Sem.run_pure, Oper.upon_value]
  exact hK _ _ (h _ ((Below.refl _ w).alloc (Nat.le_refl _) _) (MemC.new w _ _) (by simp))

theorem wl_box (x : Operand) (ho : op.op = .box 27 x) (hw : Region.wanted op (yielded ops a.tmps) = true) (s : Sup) (hx : a.eval x = sval s)
    (h : ∀ W, Below w.heap.size w W → MemC W w.heap.size 0 (scells s) → W.heap.size = w.heap.size + 1 → wpList Try.prog ops Q rest (a.put op.dst (.pointer (some ⟨w.heap.size, 0, none⟩))) W) : wpList Try.prog ops Q (op :: rest) a w := by
  refine BigFrame.wpList_want hw fun K hK => ?_
  unfold Oper.wp execOp
  simp only [ho, hx, Sem.run_bind, exec_box, Result.andThen_ok, Sem.run_pure, Oper.upon_value]
  exact hK _ _ (h _ ((Below.refl _ w).alloc (Nat.le_refl _) _) (MemC.new w _ _) (by simp))

theorem wl_build0 (ho : op.op = .build 27 #[]) (hw : Region.wanted op (yielded ops a.tmps) = true)
    (h : wpList Try.prog ops Q rest (a.put op.dst (sval noS)) w) : wpList Try.prog ops Q (op :: rest) a w := by
  refine BigFrame.wpList_want hw fun K hK => ?_
  unfold Oper.wp execOp
  simp only [ho, List.map_toArray, List.map_nil, Sem.run_bind, exec_build0, Result.andThen_ok, Sem.run_pure, Oper.upon_value]
  exact hK _ _ h

/-- A new variable that is at once given its value. -/
theorem wl_new (d : Nat) (x : Operand) (ho : op.op = .alloc 27) (hd : op.dst = some d) (ho2 : op2.op = .store 27 (.tmp d) x) (hw : Region.wanted op (yielded ops a.tmps) = true) (s : Sup)
    (hx : (a.put op.dst (.pointer (some ⟨w.heap.size, 0, none⟩))).eval x = sval s) (hd2 : (a.put op.dst (.pointer (some ⟨w.heap.size, 0, none⟩))).eval (.tmp d) = .pointer (some ⟨w.heap.size, 0, none⟩)) (hw2 : Region.wanted op2 (yielded ops (a.put op.dst (.pointer (some ⟨w.heap.size, 0, none⟩))).tmps) = true)
    (h : ∀ W, Below w.heap.size w W → MemC W w.heap.size 0 (scells s) → W.heap.size = w.heap.size + 1 → wpList Try.prog ops Q rest ((a.put op.dst (.pointer (some ⟨w.heap.size, 0, none⟩))).put op2.dst undef) W) : wpList Try.prog ops Q (op :: op2 :: rest) a w := by
  refine wl_alloc ho hw fun W1 hb hm hs => ?_
  refine wl_store (.tmp d) x ho2 hw2 w.heap.size noS s hd2 hx hm fun W2 hbut hm2 => ?_
  exact h W2 (hb.trans (hbut.below (Nat.le_refl _))) hm2 (by rw [hbut.1, hs])

theorem wl_eql (x y : Operand) (ty : TypeId) (ho : op.op = .binOp .eql 27 x y ty) (hw : Region.wanted op (yielded ops a.tmps) = true) (s t : Sup) (hx : a.eval x = sval s) (hy : a.eval y = sval t)
    (h : wpList Try.prog ops Q rest (a.put op.dst (.bool (eqS s t))) w) : wpList Try.prog ops Q (op :: rest) a w :=
  BigFrame.wpList_want hw fun K hK => wp_eql x y ty ho s t hx hy (hK _ _ h)
theorem wl_neq (x y : Operand) (ty : TypeId) (ho : op.op = .binOp .neq 27 x y ty) (hw : Region.wanted op (yielded ops a.tmps) = true) (s t : Sup) (hx : a.eval x = sval s) (hy : a.eval y = sval t)
    (h : wpList Try.prog ops Q rest (a.put op.dst (.bool (!eqS s t))) w) : wpList Try.prog ops Q (op :: rest) a w :=
  BigFrame.wpList_want hw fun K hK => wp_neq x y ty ho s t hx hy (hK _ _ h)
end

/-- A super that lies whole at the head of a block. -/
theorem load_var {w : World} {B : Nat} {s : Sup} (h : MemC w B 0 (scells s)) : (loadVar 27 ⟨B, 0, none⟩).run Try.prog w = .ok (sval s) w :=
  run_loadVar_mid w B 0 27 (scells s) _ h.range Try.underlying27 rfl (supinfo s)

/-- Which of two pages counts. -/
def updS (b : Sup) (p : List UInt8) (k : Nat) : Sup := if isSup p && (decide (slotS (supOf (bodyOf p)).gen.toNat = k) && decide (b.gen.toNat < (supOf (bodyOf p)).gen.toNat)) then supOf (bodyOf p) else b
def best1 (p : List UInt8) : Sup := updS noS p 0
def best2 (p q : List UInt8) : Sup := updS (best1 p) q 1
def pickE (p q : List UInt8) : Int := if (best2 p q).gen.toNat = 0 then 60 else 0
theorem noS_gen : noS.gen.toNat = 0 := rfl
theorem right_gen {s : Sup} (h : rightS s = true) : 0 < s.gen.toNat := by
  unfold rightS at h
  simp only [Bool.and_eq_true, decide_eq_true_eq] at h
  exact h.1
theorem isSup_gen {p : List UInt8} (h : isSup p = true) : 0 < (supOf (bodyOf p)).gen.toNat := right_gen (page_of_isSup h).2
theorem updS_zero {b : Sup} {p : List UInt8} {k : Nat} (hb : b.gen.toNat = 0 → b = noS) (h : (updS b p k).gen.toNat = 0) : updS b p k = noS := by
  unfold updS at h ⊢
  split
  · rename_i hc
    rw [if_pos hc] at h
    simp only [Bool.and_eq_true, decide_eq_true_eq] at hc
    omega
  · rename_i hc
    rw [if_neg hc] at h
    exact hb h
theorem best2_zero {p q : List UInt8} (h : (best2 p q).gen.toNat = 0) : best2 p q = noS := updS_zero (updS_zero fun _ => rfl) h

end Go.Proofs.Ytfnoeligaapnbaa
