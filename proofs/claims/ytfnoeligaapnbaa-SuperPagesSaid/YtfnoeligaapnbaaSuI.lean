/-
  Two supers compared.
-/
import Derived.Test.YtfnoeligaapnbaaSuH
import Derived.ChangeKeysEq
import Derived.Laws.StructEq
namespace Go.Proofs.Ytfnoeligaapnbaa
open Go.RowKit Go.Shelf
set_option linter.unusedVariables false
set_option linter.unusedSimpArgs false

set_option maxRecDepth 100000 in
set_option maxHeartbeats 4000000 in
theorem equal8a (a b : Nat → Nat) (w : World) : (Op.equalIn 9999 24 (.agg #[.int .u32 (a 0 : Int), .int .u32 (a 1 : Int), .int .u32 (a 2 : Int), .int .u32 (a 3 : Int), .int .u32 (a 4 : Int), .int .u32 (a 5 : Int), .int .u32 (a 6 : Int), .int .u32 (a 7 : Int)]) (.agg #[.int .u32 (b 0 : Int), .int .u32 (b 1 : Int), .int .u32 (b 2 : Int), .int .u32 (b 3 : Int), .int .u32 (b 4 : Int), .int .u32 (b 5 : Int), .int .u32 (b 6 : Int), .int .u32 (b 7 : Int)])).run Try.prog w = .ok ((List.range 8).all fun i => decide (a i = b i)) w := by
  have hc : Try.prog.cellsOf 23 = 1 := by kernel_rfl
  rw [show (9999 : Nat) = 9998 + 1 from rfl, run_equalIn_array w 9998 _ _ rfl (by rfl), hc, show List.range 8 = [0, 1, 2, 3, 4, 5, 6, 7] from rfl]
  simp [go_sem, Op.eqItems]
  norm_cast
  by_cases h0 : a 0 = b 0
  rotate_left
  · simp [h0]
  by_cases h1 : a 1 = b 1
  rotate_left
  · simp [h1]
  by_cases h2 : a 2 = b 2
  rotate_left
  · simp [h2]
  by_cases h3 : a 3 = b 3
  rotate_left
  · simp [h3]
  by_cases h4 : a 4 = b 4
  rotate_left
  · simp [h4]
  by_cases h5 : a 5 = b 5
  rotate_left
  · simp [h5]
  by_cases h6 : a 6 = b 6
  rotate_left
  · simp [h6]
  by_cases h7 : a 7 = b 7
  rotate_left
  · simp [h7]
  simp [h0, h1, h2, h3, h4, h5, h6, h7]

set_option maxRecDepth 100000 in
set_option maxHeartbeats 4000000 in
theorem equal8b (a b : Nat → Nat) (w : World) : (Op.equalIn 9999 25 (.agg #[.int .u64 (a 0 : Int), .int .u64 (a 1 : Int), .int .u64 (a 2 : Int), .int .u64 (a 3 : Int), .int .u64 (a 4 : Int), .int .u64 (a 5 : Int), .int .u64 (a 6 : Int), .int .u64 (a 7 : Int)]) (.agg #[.int .u64 (b 0 : Int), .int .u64 (b 1 : Int), .int .u64 (b 2 : Int), .int .u64 (b 3 : Int), .int .u64 (b 4 : Int), .int .u64 (b 5 : Int), .int .u64 (b 6 : Int), .int .u64 (b 7 : Int)])).run Try.prog w = .ok ((List.range 8).all fun i => decide (a i = b i)) w := by
  have hc : Try.prog.cellsOf 22 = 1 := by kernel_rfl
  rw [show (9999 : Nat) = 9998 + 1 from rfl, run_equalIn_array w 9998 _ _ rfl (by rfl), hc, show List.range 8 = [0, 1, 2, 3, 4, 5, 6, 7] from rfl]
  simp [go_sem, Op.eqItems]
  norm_cast
  by_cases h0 : a 0 = b 0
  rotate_left
  · simp [h0]
  by_cases h1 : a 1 = b 1
  rotate_left
  · simp [h1]
  by_cases h2 : a 2 = b 2
  rotate_left
  · simp [h2]
  by_cases h3 : a 3 = b 3
  rotate_left
  · simp [h3]
  by_cases h4 : a 4 = b 4
  rotate_left
  · simp [h4]
  by_cases h5 : a 5 = b 5
  rotate_left
  · simp [h5]
  by_cases h6 : a 6 = b 6
  rotate_left
  · simp [h6]
  by_cases h7 : a 7 = b 7
  rotate_left
  · simp [h7]
  simp [h0, h1, h2, h3, h4, h5, h6, h7]

set_option maxRecDepth 100000 in
set_option maxHeartbeats 4000000 in
theorem equal18 (a b : Nat → Nat) (w : World) : (Op.equalIn 10000 27 (.agg #[.int .u64 (a 0 : Int), .int .u32 (a 1 : Int), .int .u32 (a 2 : Int), .int .u32 (a 3 : Int), .int .u32 (a 4 : Int), .int .u32 (a 5 : Int), .int .u32 (a 6 : Int), .int .u32 (a 7 : Int), .int .u32 (a 8 : Int), .int .u32 (a 9 : Int), .int .u64 (a 10 : Int), .int .u64 (a 11 : Int), .int .u64 (a 12 : Int), .int .u64 (a 13 : Int), .int .u64 (a 14 : Int), .int .u64 (a 15 : Int), .int .u64 (a 16 : Int), .int .u64 (a 17 : Int)]) (.agg #[.int .u64 (b 0 : Int), .int .u32 (b 1 : Int), .int .u32 (b 2 : Int), .int .u32 (b 3 : Int), .int .u32 (b 4 : Int), .int .u32 (b 5 : Int), .int .u32 (b 6 : Int), .int .u32 (b 7 : Int), .int .u32 (b 8 : Int), .int .u32 (b 9 : Int), .int .u64 (b 10 : Int), .int .u64 (b 11 : Int), .int .u64 (b 12 : Int), .int .u64 (b 13 : Int), .int .u64 (b 14 : Int), .int .u64 (b 15 : Int), .int .u64 (b 16 : Int), .int .u64 (b 17 : Int)])).run Try.prog w = .ok ((List.range 18).all fun i => decide (a i = b i)) w := by
  have e1 := equal8a (fun i => a (2 + i)) (fun i => b (2 + i)) w
  have e2 := equal8b (fun i => a (10 + i)) (fun i => b (10 + i)) w
  dsimp only [Nat.reduceAdd] at e1 e2
  have hr : (List.range 18).all (fun i => decide (a i = b i)) = (decide (a 0 = b 0) && (decide (a 1 = b 1) && (((List.range 8).all fun i => decide (a (2 + i) = b (2 + i))) && ((List.range 8).all fun i => decide (a (10 + i) = b (10 + i)))))) := by
    rw [show List.range 18 = [0, 1, 2, 3, 4, 5, 6, 7, 8, 9, 10, 11, 12, 13, 14, 15, 16, 17] from rfl, show List.range 8 = [0, 1, 2, 3, 4, 5, 6, 7] from rfl]
    simp only [List.all_cons, List.all_nil, Bool.and_true, Nat.reduceAdd, Bool.and_assoc]
  rw [hr]
  generalize ((List.range 8).all fun i => decide (a (2 + i) = b (2 + i))) = p at *
  generalize ((List.range 8).all fun i => decide (a (10 + i) = b (10 + i))) = q at *
  rw [show (10000 : Nat) = 9999 + 1 from rfl, run_equalIn_struct w 9999 _ _ _ rfl (by kernel_rfl)]
  simp [go_sem, Program.fieldsOf, e1, e2]
  norm_cast
  by_cases h0 : a 0 = b 0 <;> by_cases h1 : a 1 = b 1 <;> simp [h0, h1] <;> cases p <;> cases q <;> simp

def eqS (s t : Sup) : Bool := (List.range 18).all fun i => decide (fval s i = fval t i)
theorem eqS_iff (s t : Sup) : eqS s t = true ↔ s = t := by
  constructor
  · intro h
    refine sup_ext fun k hk => ?_
    exact of_decide_eq_true (List.all_eq_true.1 h k (List.mem_range.2 hk))
  · rintro rfl
    exact List.all_eq_true.2 fun k _ => decide_eq_true rfl
theorem eqS_decide (s t : Sup) [Decidable (s = t)] : eqS s t = decide (s = t) := by
  cases h : eqS s t
  · exact (decide_eq_false fun e => by rw [(eqS_iff s t).2 e] at h; cases h).symm
  · exact (decide_eq_true ((eqS_iff s t).1 h)).symm
theorem equal_sup (s t : Sup) (w : World) : (Op.equalIn 10000 27 (.agg (scells s).toArray) (.agg (scells t).toArray)).run Try.prog w = .ok (eqS s t) w := by
  have h1 := lit_sval s
  have h2 := lit_sval t
  unfold sval at h1 h2
  rw [← h1, ← h2]
  exact equal18 (fval s) (fval t) w

theorem exec_eql (s t : Sup) (x y : Operand) (w : World) : (do eqGuard .eql 27 x y (.agg (scells s).toArray) (.agg (scells t).toArray); binOp .eql 27 (.agg (scells s).toArray) (.agg (scells t).toArray) : Sem Value).run Try.prog w = .ok (.bool (eqS s t)) w := by
  rw [Sem.run_bind, run_eqGuard_agg w .eql 27 x y _ _ (by kernel_rfl)]
  simp only [Result.andThen_ok]
  rw [run_eql_struct, equal_sup]
  simp
theorem exec_neq (s t : Sup) (x y : Operand) (w : World) : (do eqGuard .neq 27 x y (.agg (scells s).toArray) (.agg (scells t).toArray); binOp .neq 27 (.agg (scells s).toArray) (.agg (scells t).toArray) : Sem Value).run Try.prog w = .ok (.bool (!eqS s t)) w := by
  rw [Sem.run_bind, run_eqGuard_agg w .neq 27 x y _ _ (by kernel_rfl)]
  simp only [Result.andThen_ok]
  rw [run_neq_struct, equal_sup]
  simp

theorem wp_eql {op : Oper} {a : Act} {w : World} {K : Act → World → Prop} {Q : Exit → Act → World → Prop} (x y : Operand) (ty : TypeId) (ho : op.op = .binOp .eql 27 x y ty) (s t : Sup)
    (hx : a.eval x = .agg (scells s).toArray) (hy : a.eval y = .agg (scells t).toArray) (h : K (a.put op.dst (.bool (eqS s t))) w) : op.wp Try.prog a w K Q := by
  have e := exec_eql s t x y w
  unfold Oper.wp execOp
  simp only [ho, hx, hy]
  rw [Sem.run_bind, e]
  exact h
theorem wp_neq {op : Oper} {a : Act} {w : World} {K : Act → World → Prop} {Q : Exit → Act → World → Prop} (x y : Operand) (ty : TypeId) (ho : op.op = .binOp .neq 27 x y ty) (s t : Sup)
    (hx : a.eval x = .agg (scells s).toArray) (hy : a.eval y = .agg (scells t).toArray) (h : K (a.put op.dst (.bool (!eqS s t))) w) : op.wp Try.prog a w K Q := by
  have e := exec_neq s t x y w
  unfold Oper.wp execOp
  simp only [ho, hx, hy]
  rw [Sem.run_bind, e]
  exact h

end Go.Proofs.Ytfnoeligaapnbaa
