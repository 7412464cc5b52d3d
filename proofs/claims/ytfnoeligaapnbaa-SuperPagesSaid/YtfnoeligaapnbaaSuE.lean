/-
  super.fields; a whole super out of memory; super.Encode.
-/
import Derived.Test.YtfnoeligaapnbaaSuD
import Derived.Deep.MidRow
namespace Go.Proofs.Ytfnoeligaapnbaa
open Go.RowKit Go.Shelf
set_option linter.unusedVariables false
set_option linter.unusedSimpArgs false
attribute [local go_sem] Oper.semAt_some

theorem supinfo (s : Sup) : (Try.prog.info? 27).map (·.size) = some (scells s).length := by
  rw [scells_length]
  kernel_rfl
theorem load_sup {w : World} {B : Nat} {s : Sup} (h : MemC w B 0 (scells s)) : (Instr.loadAt 27 (.pointer (some ⟨B, 0, none⟩))).run Try.prog w = .ok (.agg (scells s).toArray) w :=
  run_loadAt_mid w B 0 27 (scells s) _ (fun j v hv => by rw [Nat.zero_add]; exact (h.gets j v hv).1) Try.underlying27 rfl (supinfo s)

theorem cells18 {w : World} {B : Nat} {s : Sup} (h : MemC w B 0 (scells s)) : w.cell? ⟨B, 0, none⟩ = some (.int .u64 (fval s 0 : Int)) ∧ w.cell? ⟨B, 1, none⟩ = some (.int .u32 (fval s 1 : Int)) ∧ w.cell? ⟨B, 2, none⟩ = some (.int .u32 (fval s 2 : Int)) ∧ w.cell? ⟨B, 3, none⟩ = some (.int .u32 (fval s 3 : Int)) ∧ w.cell? ⟨B, 4, none⟩ = some (.int .u32 (fval s 4 : Int)) ∧ w.cell? ⟨B, 5, none⟩ = some (.int .u32 (fval s 5 : Int)) ∧ w.cell? ⟨B, 6, none⟩ = some (.int .u32 (fval s 6 : Int)) ∧ w.cell? ⟨B, 7, none⟩ = some (.int .u32 (fval s 7 : Int)) ∧ w.cell? ⟨B, 8, none⟩ = some (.int .u32 (fval s 8 : Int)) ∧ w.cell? ⟨B, 9, none⟩ = some (.int .u32 (fval s 9 : Int)) ∧ w.cell? ⟨B, 10, none⟩ = some (.int .u64 (fval s 10 : Int)) ∧ w.cell? ⟨B, 11, none⟩ = some (.int .u64 (fval s 11 : Int)) ∧ w.cell? ⟨B, 12, none⟩ = some (.int .u64 (fval s 12 : Int)) ∧ w.cell? ⟨B, 13, none⟩ = some (.int .u64 (fval s 13 : Int)) ∧ w.cell? ⟨B, 14, none⟩ = some (.int .u64 (fval s 14 : Int)) ∧ w.cell? ⟨B, 15, none⟩ = some (.int .u64 (fval s 15 : Int)) ∧ w.cell? ⟨B, 16, none⟩ = some (.int .u64 (fval s 16 : Int)) ∧ w.cell? ⟨B, 17, none⟩ = some (.int .u64 (fval s 17 : Int)) :=
  ⟨(h.gets 0 _ (scells_gen s)).1, (h.gets 1 _ (scells_blocks s)).1, (h.gets 2 _ (scells_root s 0 (by decide))).1, (h.gets 3 _ (scells_root s 1 (by decide))).1, (h.gets 4 _ (scells_root s 2 (by decide))).1, (h.gets 5 _ (scells_root s 3 (by decide))).1, (h.gets 6 _ (scells_root s 4 (by decide))).1, (h.gets 7 _ (scells_root s 5 (by decide))).1, (h.gets 8 _ (scells_root s 6 (by decide))).1, (h.gets 9 _ (scells_root s 7 (by decide))).1, (h.gets 10 _ (scells_mark s 0 (by decide))).1, (h.gets 11 _ (scells_mark s 1 (by decide))).1, (h.gets 12 _ (scells_mark s 2 (by decide))).1, (h.gets 13 _ (scells_mark s 3 (by decide))).1, (h.gets 14 _ (scells_mark s 4 (by decide))).1, (h.gets 15 _ (scells_mark s 5 (by decide))).1, (h.gets 16 _ (scells_mark s 6 (by decide))).1, (h.gets 17 _ (scells_mark s 7 (by decide))).1⟩
theorem list18 {l : List Value} (h : l.length = 18) : l = [l.getD 0 (.bool false), l.getD 1 (.bool false), l.getD 2 (.bool false), l.getD 3 (.bool false), l.getD 4 (.bool false), l.getD 5 (.bool false), l.getD 6 (.bool false), l.getD 7 (.bool false), l.getD 8 (.bool false), l.getD 9 (.bool false), l.getD 10 (.bool false), l.getD 11 (.bool false), l.getD 12 (.bool false), l.getD 13 (.bool false), l.getD 14 (.bool false), l.getD 15 (.bool false), l.getD 16 (.bool false), l.getD 17 (.bool false)] := by
  match l, h with
  | [x0, x1, x2, x3, x4, x5, x6, x7, x8, x9, x10, x11, x12, x13, x14, x15, x16, x17], _ => rfl
theorem lit_sval (s : Sup) : Value.agg #[.int .u64 (fval s 0 : Int), .int .u32 (fval s 1 : Int), .int .u32 (fval s 2 : Int), .int .u32 (fval s 3 : Int), .int .u32 (fval s 4 : Int), .int .u32 (fval s 5 : Int), .int .u32 (fval s 6 : Int), .int .u32 (fval s 7 : Int), .int .u32 (fval s 8 : Int), .int .u32 (fval s 9 : Int), .int .u64 (fval s 10 : Int), .int .u64 (fval s 11 : Int), .int .u64 (fval s 12 : Int), .int .u64 (fval s 13 : Int), .int .u64 (fval s 14 : Int), .int .u64 (fval s 15 : Int), .int .u64 (fval s 16 : Int), .int .u64 (fval s 17 : Int)] = sval s := by
  unfold sval
  congr 1
  have h : ∀ i v, (scells s)[i]? = some v → (scells s).getD i (.bool false) = v := fun i v hv => by rw [List.getD_eq_getElem?_getD, hv]; rfl
  rw [list18 (scells_length s)]
  rw [h 0 _ (scells_gen s), h 1 _ (scells_blocks s), h 2 _ (scells_root s 0 (by decide)), h 3 _ (scells_root s 1 (by decide)), h 4 _ (scells_root s 2 (by decide)), h 5 _ (scells_root s 3 (by decide)), h 6 _ (scells_root s 4 (by decide)), h 7 _ (scells_root s 5 (by decide)), h 8 _ (scells_root s 6 (by decide)), h 9 _ (scells_root s 7 (by decide)), h 10 _ (scells_mark s 0 (by decide)), h 11 _ (scells_mark s 1 (by decide)), h 12 _ (scells_mark s 2 (by decide)), h 13 _ (scells_mark s 3 (by decide)), h 14 _ (scells_mark s 4 (by decide)), h 15 _ (scells_mark s 5 (by decide)), h 16 _ (scells_mark s 6 (by decide)), h 17 _ (scells_mark s 7 (by decide))]
  rfl

theorem fieldsf_in (n : Nat) (B : Nat) (w : World) :
    CallsIn Fence.wide n Try.prog 25 #[.pointer (some ⟨B, 0, none⟩)] w fun e w' => e = .returned (.func (.func 38) #[] #[ptr w.heap.size]) ∧ w' = w.alloc (.cells #[.pointer (some ⟨B, 0, none⟩)] 57) := by
  refine callsIn_of_wp Try.func25 rfl trivial ?_ rfl
  simp only [Try.ntmps25, List.size_toArray, List.length_cons, List.length_nil, Nat.reduceAdd, Nat.reduceSub, Array.replicate_succ, Array.replicate_zero, List.push_toArray, List.append_toArray, List.nil_append, List.cons_append]
  have hmf : ∀ (fn : Fn) (first cap : Array Value) (w : World), (Instr.makeFunc fn first cap).run Try.prog w = .ok (.func fn first cap) w := fun _ _ _ _ => rfl
  gi_wp2
  go_ret
  exact ⟨rfl, rfl⟩

set_option maxRecDepth 100000 in
set_option maxHeartbeats 4000000 in
theorem encode_bad (s : Sup) (w : World) (hr : rightS s = false) :
    Calls Try.prog 12 #[sval s] w fun e w' => e = .returned (.tuple #[.slice none 0 0, .int .i64 60]) ∧ Below w.heap.size w w' := by
  have HF := Lib.hid hr
  obtain ⟨W0, hW0⟩ : ∃ W0 : World, W0 = w.alloc (.cells (scells s).toArray 27) := ⟨_, rfl⟩
  have B0 : Hid (Below w.heap.size w W0) := Lib.hid (by rw [hW0]; exact (Below.refl _ w).alloc (Nat.le_refl _) _)
  have S0 : Hid (MemC W0 w.heap.size 0 (scells s)) := Lib.hid (by rw [hW0]; exact MemC.new w (scells s) _)
  have HW := Lib.hid hW0; clear hW0 hr
  obtain ⟨c0, c1, c2, c3, c4, c5, c6, c7, c8, c9, c10, c11, c12, c13, c14, c15, c16, c17⟩ := cells18 S0.out
  unfold sval
  go_enter Try.func12, Try.ntmps12
  go_upto_region 1 with fail
  rw [← HW.out]
  go_wp2_with fail
  rw [lit_sval]
  refine (right_any s _).mono ?_
  rintro e w1 ⟨rfl, hb⟩
  rw [HF.out]
  have B1 := Lib.hid (B0.out.trans (hb.mono B0.out.size))
  go_wp2_with fail
  go_ret2
  exact ⟨rfl, B1.out⟩

end Go.Proofs.Ytfnoeligaapnbaa
