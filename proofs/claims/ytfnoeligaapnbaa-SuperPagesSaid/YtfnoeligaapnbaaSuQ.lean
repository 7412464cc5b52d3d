/-
  Supers written down; a page of zeros; what awake wants.
-/
import Derived.Test.YtfnoeligaapnbaaSuP
import Derived.Test.YtfnoeligaapnbaaSuO
namespace Go.Proofs.Ytfnoeligaapnbaa
open Go.RowKit Go.Shelf
set_option linter.unusedVariables false
set_option linter.unusedSimpArgs false
attribute [local go_sem ↓] Go.wp_at_zero Go.wp_at_succ

/-- The super with this generation, so many blocks, and else noughts. -/
def supL (g : UInt64) (b : UInt32) : Sup := ⟨g, b, List.replicate 8 0, List.replicate 8 0, rfl, rfl⟩
theorem exec_build2 (g : UInt64) (b : UInt32) (w : World) : (Instr.build 27 #[(0, .int .u64 (g.toNat : Int)), (1, .int .u32 (b.toNat : Int))]).run Try.prog w = .ok (sval (supL g b)) w := by kernel_rfl
theorem exec_build1 (b : UInt32) (w : World) : (Instr.build 27 #[(1, .int .u32 (b.toNat : Int))]).run Try.prog w = .ok (sval (supL 0 b)) w := by kernel_rfl
def two : Sup := supL 2 16
def three : Sup := supL 3 16
def far : Sup := ⟨2, 16, [0, 0, 0, 0, 0, 0, 0, 16], List.replicate 8 0, rfl, rfl⟩
theorem exec_three (w : World) : (Instr.buildSlice 52 3 #[(0, sval (supL 0 16)), (1, sval (supL 1 15)), (2, sval far)]).run Try.prog w = .ok (.slice (some ⟨w.heap.size, 0, none⟩) 3 3) (w.alloc (.cells (scells (supL 0 16) ++ scells (supL 1 15) ++ scells far).toArray 27)) := by kernel_rfl
theorem three_parts (x y z : List Value) (hx : x.length = 18) (hy : y.length = 18) (hz : z.length = 18) : ((x ++ y ++ z).drop 0).take 18 = x ∧ ((x ++ y ++ z).drop 18).take 18 = y ∧ ((x ++ y ++ z).drop 36).take 18 = z := by
  refine ⟨?_, ?_, ?_⟩
  · rw [List.drop_zero, List.append_assoc, List.take_append_of_le_length (by omega), List.take_of_length_le (by omega)]
  · rw [List.append_assoc, ← hx, List.drop_left, hx, List.take_append_of_le_length (by omega), List.take_of_length_le (by omega)]
  · rw [show (36 : Nat) = (x ++ y).length by rw [List.length_append]; omega, List.drop_left, List.take_of_length_le (by omega)]

section
variable {ops : Array Oper} {rest : List Oper} {op op2 : Oper} {a : Act} {w : World} {Q : Exit → Act → World → Prop}
theorem wl_build2 (x y : Operand) (ho : op.op = .build 27 #[(0, x), (1, y)]) (hw : Region.wanted op (yielded ops a.tmps) = true) (g : UInt64) (b : UInt32) (hx : a.eval x = .int .u64 (g.toNat : Int)) (hy : a.eval y = .int .u32 (b.toNat : Int))
    (h : wpList Try.prog ops Q rest (a.put op.dst (sval (supL g b))) w) : wpList Try.prog ops Q (op :: rest) a w := by
  refine BigFrame.wpList_want hw fun K hK => ?_
  unfold Oper.wp execOp
  simp only [ho, hx, hy, List.map_toArray, List.map_cons, List.map_nil, Sem.run_bind, exec_build2, Result.andThen_ok, Sem.run_pure, Oper.upon_value]
  exact hK _ _ h
theorem wl_build1 (y : Operand) (ho : op.op = .build 27 #[(1, y)]) (hw : Region.wanted op (yielded ops a.tmps) = true) (b : UInt32) (hy : a.eval y = .int .u32 (b.toNat : Int))
    (h : wpList Try.prog ops Q rest (a.put op.dst (sval (supL 0 b))) w) : wpList Try.prog ops Q (op :: rest) a w := by
  refine BigFrame.wpList_want hw fun K hK => ?_
  unfold Oper.wp execOp
  simp only [ho, hy, List.map_toArray, List.map_cons, List.map_nil, Sem.run_bind, exec_build1, Result.andThen_ok, Sem.run_pure, Oper.upon_value]
  exact hK _ _ h
theorem wl_three (x y z : Operand) (ho : op.op = .buildSlice 52 3 #[(0, x), (1, y), (2, z)]) (hw : Region.wanted op (yielded ops a.tmps) = true) (hx : a.eval x = sval (supL 0 16)) (hy : a.eval y = sval (supL 1 15)) (hz : a.eval z = sval far)
    (h : ∀ W, Below w.heap.size w W → MemC W w.heap.size 0 (scells (supL 0 16)) → MemC W w.heap.size 18 (scells (supL 1 15)) → MemC W w.heap.size 36 (scells far) → wpList Try.prog ops Q rest (a.put op.dst (.slice (some ⟨w.heap.size, 0, none⟩) 3 3)) W) : wpList Try.prog ops Q (op :: rest) a w := by
  refine BigFrame.wpList_want hw fun K hK => ?_
  unfold Oper.wp execOp
  simp only [ho, hx, hy, hz, List.map_toArray, List.map_cons, List.map_nil, Sem.run_bind, exec_three, Result.andThen_ok, Sem.run_pure, Oper.upon_value]
  have hm := MemC.new w (scells (supL 0 16) ++ scells (supL 1 15) ++ scells far) 27
  obtain ⟨e1, e2, e3⟩ := three_parts _ _ _ (scells_length (supL 0 16)) (scells_length (supL 1 15)) (scells_length far)
  refine hK _ _ (h _ ((Below.refl _ w).alloc (Nat.le_refl _) _) ?_ ?_ ?_)
  · have := hm.sub 0 18
    rwa [e1] at this
  · have := hm.sub 18 18
    rwa [e2] at this
  · have := hm.sub 36 18
    rwa [e3] at this

theorem wl_loadO (x : Operand) (ho : op.op = .load 27 x) (hw : Region.wanted op (yielded ops a.tmps) = true) (B o : Nat) (s : Sup) (hx : a.eval x = .pointer (some ⟨B, o, none⟩)) (hm : MemC w B o (scells s))
    (h : wpList Try.prog ops Q rest (a.put op.dst (sval s)) w) : wpList Try.prog ops Q (op :: rest) a w :=
  BigFrame.wpList_want hw fun K hK => wp_load_mid 27 x ho B o hx (scells s) _ (fun j v hv => by
    obtain ⟨hj, rfl⟩ := List.getElem?_eq_some_iff.1 hv
    exact hm.at_.cell j hj) Try.underlying27 rfl (supinfo s) (hK _ _ h)
theorem wl_same (x y : Operand) (ty : TypeId) (ho : op.op = .binOp .eql 27 x y ty) (hw : Region.wanted op (yielded ops a.tmps) = true) (s : Sup) (hx : a.eval x = sval s) (hy : a.eval y = sval s)
    (h : wpList Try.prog ops Q rest (a.put op.dst (.bool true)) w) : wpList Try.prog ops Q (op :: rest) a w := by
  refine wl_eql x y ty ho hw s s hx hy ?_
  rw [(eqS_iff s s).2 rfl]
  exact h
theorem wl_nsame (x y : Operand) (ty : TypeId) (ho : op.op = .binOp .neq 27 x y ty) (hw : Region.wanted op (yielded ops a.tmps) = true) (s : Sup) (hx : a.eval x = sval s) (hy : a.eval y = sval s)
    (h : wpList Try.prog ops Q rest (a.put op.dst (.bool false)) w) : wpList Try.prog ops Q (op :: rest) a w := by
  refine wl_neq x y ty ho hw s s hx hy ?_
  rw [(eqS_iff s s).2 rfl]
  exact h
end

theorem pick_v (A1 A2 : Option Addr) (n1 c1 n2 c2 : Nat) (p1 p2 : List UInt8) (w : World) (h1 : Reads8 w A1 n1 p1) (h2 : Reads8 w A2 n2 p2) (hn1 : n1 ≤ maxLen) (hc1 : n1 ≤ c1) (hn2 : n2 ≤ maxLen) (hc2 : n2 ≤ c2) :
    Calls Try.prog 16 #[.slice A1 n1 c1, .slice A2 n2 c2] w fun e w' => e = .returned (pickV p1 p2) ∧ Below w.heap.size w w' :=
  pick_any A1 A2 n1 c1 n2 c2 p1 p2 w h1 h2 hn1 hc1 hn2 hc2

set_option maxHeartbeats 1000000 in
theorem filled_zero (w : World) : Calls Try.prog 24 #[.int .u8 0] w fun e w' => ∃ v, e = .returned v ∧ Fresh8 w w' v (List.replicate 128 0) := by
  obtain ⟨i0, hi, hz0, hz1, hz2⟩ := info_parts u8info
  go_enter Try.func24, Try.ntmps24
  go_wp2_with (at_make; refine wpList_make_full _ rfl _ _ 28 rfl w.heap.size 5 i0 (.int .u8 0) 1 Try.underlying28 hi hz0 hz1 .i64 .i64 _ _ 128 rfl rfl rfl rfl (by rw [hz2]; omega) (by simp only [maxLen]; omega) (Nat.le_refl _) ?_)
  intro w1 hown hgrow
  have hb1 : Below w.heap.size w w1 := (Below.refl _ _).grown hgrow (Nat.le_refl _) (by intro k hk; cases hk)
  have hm := (Blk8.of_made hown).mem
  rw [List.length_replicate] at hm
  clear hown hgrow hi hz0 hz1 hz2 i0
  have HB := Lib.hid hb1
  have HM := Lib.hid hm
  clear hb1 hm
  go_wp2_with fail
  go_loopw [4] (fun i wr => ∃ k : Nat, k ≤ 128 ∧ i = .int .i64 (k : Int) ∧ Mem8 wr w.heap.size 0 128 (List.replicate 128 0) ∧ Below w.heap.size w wr) (fun i _ => 128 - (intOf i).toNat)
  case atStart => exact ⟨0, Nat.zero_le _, rfl, HM.out, HB.out⟩
  case round =>
    obtain ⟨k, hk, rfl, hm, hb⟩ := hrel
    have KM := Lib.hid hm
    have KB := Lib.hid hb
    clear hm hb HM HB
    by_cases hlt : k < 128
    · obtain ⟨c0, f0⟩ := KM.out.byte k 0 (by rw [List.getElem?_replicate, if_pos hlt])
      rw [show ((UInt8.toNat 0 : Nat) : Int) = 0 from rfl] at c0
      have k0 : (0 : Int) ≤ (k : Int) := Int.natCast_nonneg _
      have k1 : (k : Int) < 128 := by omega
      have e0 : (List.replicate 128 (0 : UInt8)).set k 0 = List.replicate 128 0 := by
        apply List.ext_getElem?
        intro j
        by_cases e : k = j
        · subst e
          rw [List.getElem?_set_self (by simpa using hlt), List.getElem?_replicate, if_pos hlt]
        · rw [List.getElem?_set_ne e]
      have E0 := Lib.hid e0
      clear e0
      go_wp2_with fail
      go_roundw
      case rel =>
        refine ⟨k + 1, by omega, by go_num, ?_, KB.out.setCell (p := ⟨w.heap.size, k, none⟩) (Nat.le_refl _) _⟩
        have := KM.out.set k 0 hlt
        rwa [E0.out] at this
      case measure => simp [intOf]; omega
    · obtain rfl : k = 128 := by omega
      rw [show ((128 : Nat) : Int) = 128 from rfl]
      go_wp2_with fail
      go_ret
      exact ⟨_, rfl, w.heap.size, 128, rfl, Nat.le_refl _, by simp, by simp only [maxLen]; omega, by simpa using KM.out, KB.out⟩

theorem far_cells : (scells two).set 9 (.int .u32 16) = scells far := by rfl
theorem two_right : rightS two = true := by decide +kernel
theorem three_right : rightS three = true := by decide +kernel
theorem bad0 : rightS (supL 0 16) = false := by decide +kernel
theorem bad1 : rightS (supL 1 15) = false := by decide +kernel
theorem far_bad : rightS far = false := by decide +kernel
theorem two_take : ((spage two).drop 0).take 14 = [6, 0, 0, 0, 0, 0, 0, 0, 2, 0, 0, 0, 16, 0] := by decide +kernel
theorem zero_no : isSup (List.replicate 128 0) = false := by decide +kernel
theorem isSup_two : isSup (spage two) = true := by rw [isSup_page, two_right]
theorem isSup_three : isSup (spage three) = true := by rw [isSup_page, three_right]
theorem pv1 : pickV (spage two) (spage three) = .tuple #[sval three, .int .i64 1, .int .i64 0] := by
  have h := pickV_q (p := spage two) (q := spage three) isSup_three (by rw [supOf_page]; rfl) (by
    rw [best1_yes isSup_two (by rw [supOf_page]; rfl), supOf_page, supOf_page]; decide)
  rwa [supOf_page] at h
theorem pv2 : pickV (spage two) (List.replicate 128 0) = .tuple #[sval two, .int .i64 0, .int .i64 0] := by
  have h := pickV_p (p := spage two) (q := List.replicate 128 0) isSup_two (by rw [supOf_page]; rfl) (.inl zero_no)
  rwa [supOf_page] at h
theorem pv3 : pickV (List.replicate 128 0) (spage two) = .tuple #[sval noS, .int .i64 0, .int .i64 60] :=
  pickV_n (.inl zero_no) (.inr (by rw [supOf_page]; rfl))

end Go.Proofs.Ytfnoeligaapnbaa
