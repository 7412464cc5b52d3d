/-
  Whole writes loaded, stored, boxed; plate.put.
-/
import Derived.Test.YtdnhlpddnbholaaDkA
namespace Go.Proofs.Ytdnhlpddnbholaa
open Go.RowKit
set_option linter.unusedVariables false
set_option linter.unusedSimpArgs false
attribute [local go_sem ↓] Go.wp_at_zero Go.wp_at_succ

theorem writeinfo (x : Nat × List UInt8) (h : x.2.length = 128) : (Try.prog.info? 83).map (·.size) = some (wcell x).length := by
  rw [wcell_length x h]
  kernel_rfl
theorem MemC.rangeO {w : World} {b o : Nat} {xs : List Value} (h : MemC w b o xs) : w.rangeAt b o xs := fun j v hv => by
  obtain ⟨hj, rfl⟩ := List.getElem?_eq_some_iff.1 hv
  exact h.at_.cell j hj
theorem CellsAt.rangeO {w : World} {b o : Nat} {xs : List Value} (h : CellsAt w b o xs) : w.rangeAt b o xs := fun j v hv => by
  obtain ⟨hj, rfl⟩ := List.getElem?_eq_some_iff.1 hv
  exact h.cell j hj

theorem below_setCells {B b : Nat} (hB : B ≤ b) : ∀ (vs : List Value) (w : World) (o : Nat), Below B w (w.setCells b o vs)
  | [], w, o => Below.refl _ _
  | v :: vs, w, o => ((Below.refl B w).setCell (p := ⟨b, o, none⟩) hB v).trans (below_setCells hB vs _ (o + 1))
theorem wrote_setCells (b : Nat) : ∀ (vs : List Value) (w : World) (o : Nat), Wrote w (w.setCells b o vs) b o (o + vs.length)
  | [], w, o => Wrote.refl _ _ _ _
  | v :: vs, w, o => by
    have h := wrote_setCells b vs (w.setCell ⟨b, o, none⟩ v) (o + 1)
    exact ((Wrote.set w b o v).mono (Nat.le_refl _) (by simp)).trans (h.mono (by omega) (by simp only [List.length_cons]; omega))
theorem Wrote.turn {w w' : World} {b lo hi : Nat} (h : Wrote w w' b lo hi) : Turn (fun k => k = b) w w' := ⟨h.os, h.tape, h.output, Nat.le_of_eq h.size.symm, fun k _ hk => h.other k hk⟩
theorem Turn.mono {F G : Nat → Prop} {w w' : World} (h : Turn F w w') (hG : ∀ k, F k → G k) : Turn G w w' := ⟨h.os, h.tape, h.output, h.size, fun k h1 h2 => h.block k h1 fun hf => h2 (hG k hf)⟩
theorem MemC.turn {F : Nat → Prop} {w w' : World} {b o : Nat} {xs : List Value} (h : MemC w b o xs) (ht : Turn F w w') (hb : ¬ F b) : MemC w' b o xs :=
  ⟨⟨Nat.lt_of_lt_of_le h.at_.lt ht.size, fun j hj => (World.cell?_of_block (w := w) (a := ⟨b, o + j, none⟩) (ht.block b h.at_.lt hb)).trans (h.at_.cell j hj)⟩, fun j hj => (World.frozen?_of_block (w := w) (a := ⟨b, o + j, none⟩) (ht.block b h.at_.lt hb)).trans (h.free j hj)⟩
theorem CellsAt.turn {F : Nat → Prop} {w w' : World} {b o : Nat} {xs : List Value} (h : CellsAt w b o xs) (ht : Turn F w w') (hb : ¬ F b) : CellsAt w' b o xs :=
  ⟨Nat.lt_of_lt_of_le h.lt ht.size, fun j hj => (World.cell?_of_block (w := w) (a := ⟨b, o + j, none⟩) (ht.block b h.lt hb)).trans (h.cell j hj)⟩
theorem Mem8.turn {F : Nat → Prop} {w w' : World} {b o n : Nat} {l : List UInt8} (h : Mem8 w b o n l) (ht : Turn F w w') (hb : ¬ F b) : Mem8 w' b o n l :=
  ⟨h.len, Nat.lt_of_lt_of_le h.lt ht.size, fun j hj => (World.cell?_of_block (w := w) (a := ⟨b, o + j, none⟩) (ht.block b h.lt hb)).trans (h.cell j hj), fun j hj => (World.frozen?_of_block (w := w) (a := ⟨b, o + j, none⟩) (ht.block b h.lt hb)).trans (h.free j hj)⟩
theorem Reads8.turn {F : Nat → Prop} {w w' : World} {A : Option Addr} {n : Nat} {l : List UInt8} (h : Reads8 w A n l) (ht : Turn F w w') (hb : ∀ a, A = some a → ¬ F a.block) : Reads8 w' A n l :=
  ⟨h.1, fun hn => by
    obtain ⟨b, o, e, hlt, hc⟩ := h.2 hn
    exact ⟨b, o, e, Nat.lt_of_lt_of_le hlt ht.size, fun j hj => (World.cell?_of_block (w := w) (a := ⟨b, o + j, none⟩) (ht.block b hlt (hb _ e))).trans (hc j hj)⟩⟩
theorem own_turn {F : Nat → Prop} {w w' : World} {base s n : Nat} {e : TypeId} {v : Value} {xs : List Value} (h : w.ownsRow base e s v n xs) (ht : Turn F w w') (hb : ∀ g, v.ownBlock = some g → ¬ F g) : w'.ownsRow base e s v n xs :=
  ⟨h.1, h.2.imp id fun ⟨q, cap, cur, e1, hq, hh, r⟩ => ⟨q, cap, cur, e1, hq, (ht.block q (Array.getElem?_eq_some_iff.1 hh).1 (hb q (by rw [e1]; rfl))).trans hh, r⟩⟩
theorem Reads8.cellsAt {w : World} {b o n : Nat} {l : List UInt8} (h : Reads8 w (some ⟨b, o, none⟩) n l) (hn : 0 < n) : CellsAt w b o (b8 l) := by
  obtain ⟨b', o', e, hlt, hc⟩ := h.2 hn
  injection e with e
  injection e with e1 e2
  subst e1; subst e2
  exact ⟨hlt, fun j hj => by rw [hc j (by simpa [b8_length] using hj)]; simp [b8]⟩
theorem Mem8.cellsAt {w : World} {b o n : Nat} {l : List UInt8} (h : Mem8 w b o n l) : CellsAt w b o (b8 l) := ⟨h.lt, fun j hj => by rw [h.cell j (by simpa [b8_length] using hj)]; simp [b8]⟩

section
variable {ops : Array Oper} {rest : List Oper} {op op2 : Oper} {a : Act} {w : World} {Q : Exit → Act → World → Prop}
theorem wl_load (x : Operand) (ho : op.op = .load 83 x) (hw : Region.wanted op (yielded ops a.tmps) = true) (B o : Nat) (s : Nat × List UInt8) (hs : s.2.length = 128) (hx : a.eval x = .pointer (some ⟨B, o, none⟩)) (hm : CellsAt w B o (wcell s))
    (h : wpList Try.prog ops Q rest (a.put op.dst (wval s)) w) : wpList Try.prog ops Q (op :: rest) a w :=
  BigFrame.wpList_want hw fun K hK => wp_load_mid 83 x ho B o hx (wcell s) _ hm.rangeO Try.underlying83 rfl (writeinfo s hs) (hK _ _ h)
theorem wp_copy8 {op : Oper} {a : Act} {w : World} {K : Act → World → Prop} {Q : Exit → Act → World → Prop} (d s : Operand) (ho : op.op = .call { callee := .builtin .copy, args := #[d, s], argTypes := #[37, 37] })
    (b o n c b' o' m e : Nat) (l src : List UInt8) (hd : a.eval d = .slice (some ⟨b, o, none⟩) n c) (hs : a.eval s = .slice (some ⟨b', o', none⟩) m e) (hn : src.length = Nat.min m n) (hm : Mem8 w b o n l) (hsrc : CellsAt w b' o' (b8 src))
    (h : ∀ W, Wrote w W b o (o + src.length) → Mem8 W b o src.length src → K (a.put op.dst (goInt src.length)) W) : op.wp Try.prog a w K Q := by
  have hl := hm.len
  have hle : src.length ≤ l.length := by rw [hn, hl]; exact Nat.min_le_right _ _
  have hr := run_copy_cells (P := Try.prog) w 37 37 op.type 5 b o n c ⟨b', o', none⟩ m e (b8 src) Try.underlying37 (by kernel_rfl) (by rw [b8_length]; exact hn)
    (fun j v hv => by
      obtain ⟨hj, rfl⟩ := List.getElem?_eq_some_iff.1 hv
      rw [Addr.add_mid]
      exact hsrc.cell j hj)
    (fun j hj => by rw [hm.cell j (by rw [b8_length] at hj; omega)]; rfl) (fun j hj => hm.free j (by rw [b8_length] at hj; omega)) (b8_one src)
  refine Lib.wp_copy_run w d s _ _ ho _ _ hd hs hr ?_
  rw [b8_length]
  have hw := wrote_setCells b (b8 src) w o
  rw [b8_length] at hw
  refine h _ hw ⟨rfl, by rw [hw.size]; exact hm.lt, fun j hj => ?_, fun j hj => by rw [hw.frz]; exact hm.free j (by omega)⟩
  have ht : w.there b o (b8 src).length := fun j hj => by
    rw [b8_length] at hj
    exact ⟨by rw [hm.cell j (by omega)]; rfl, hm.free j (by omega)⟩
  exact World.rangeAt_setCells_same w b o (b8 src) ht j _ (b8_get hj)
theorem wl_copy8 (d s : Operand) (ho : op.op = .call { callee := .builtin .copy, args := #[d, s], argTypes := #[37, 37] }) (hw : Region.wanted op (yielded ops a.tmps) = true)
    (b o n c b' o' m e : Nat) (l src : List UInt8) (hd : a.eval d = .slice (some ⟨b, o, none⟩) n c) (hs : a.eval s = .slice (some ⟨b', o', none⟩) m e) (hn : src.length = Nat.min m n) (hm : Mem8 w b o n l) (hsrc : CellsAt w b' o' (b8 src))
    (h : ∀ W, Wrote w W b o (o + src.length) → Mem8 W b o src.length src → wpList Try.prog ops Q rest (a.put op.dst (goInt src.length)) W) : wpList Try.prog ops Q (op :: rest) a w :=
  BigFrame.wpList_want hw fun K hK => wp_copy8 d s ho b o n c b' o' m e l src hd hs hn hm hsrc fun W h1 h2 => hK _ _ (h W h1 h2)
theorem exec_box (w : World) (s : Nat × List UInt8) : (Instr.box 83 (wval s)).run Try.prog w = .ok (.pointer (some ⟨w.heap.size, 0, none⟩)) (w.alloc (.cells (wcell s).toArray 83)) := by
  kernel_rfl
theorem wl_box (x : Operand) (ho : op.op = .box 83 x) (hw : Region.wanted op (yielded ops a.tmps) = true) (s : Nat × List UInt8) (hx : a.eval x = wval s)
    (h : ∀ W, Below w.heap.size w W → MemC W w.heap.size 0 (wcell s) → W.heap.size = w.heap.size + 1 → wpList Try.prog ops Q rest (a.put op.dst (.pointer (some ⟨w.heap.size, 0, none⟩))) W) : wpList Try.prog ops Q (op :: rest) a w := by
  refine BigFrame.wpList_want hw fun K hK => ?_
  unfold Oper.wp execOp
  simp only [ho, hx, Sem.run_bind, exec_box, Result.andThen_ok, Sem.run_pure, Oper.upon_value]
  exact hK _ _ (h _ ((Below.refl _ w).alloc (Nat.le_refl _) _) (MemC.new w (wcell s) _) (by simp))

theorem exec_alloc (w : World) : (Instr.alloc 83 true (.tuple #[])).run Try.prog w = .ok (.pointer (some ⟨w.heap.size, 0, none⟩)) (w.alloc (.cells (wcell (0, List.replicate 128 0)).toArray 83)) := by
  kernel_rfl
theorem exec_build (k : Nat) (w : World) : (Instr.build 83 #[(0, .int .i64 (k : Int))]).run Try.prog w = .ok (wval (k, List.replicate 128 0)) w := by
  kernel_rfl
theorem wl_alloc (ho : op.op = .alloc 83) (hw : Region.wanted op (yielded ops a.tmps) = true)
    (h : ∀ W, Below w.heap.size w W → MemC W w.heap.size 0 (wcell (0, List.replicate 128 0)) → W.heap.size = w.heap.size + 1 → wpList Try.prog ops Q rest (a.put op.dst (.pointer (some ⟨w.heap.size, 0, none⟩))) W) : wpList Try.prog ops Q (op :: rest) a w := by
  refine BigFrame.wpList_want hw fun K hK => ?_
  unfold Oper.wp execOp
  simp only [ho, Sem.run_bind, exec_alloc, Result.andThen_ok, Sem.run_pure, Oper.upon_value]
  exact hK _ _ (h _ ((Below.refl _ w).alloc (Nat.le_refl _) _) (MemC.new w _ _) (by simp))
theorem wl_build (x : Operand) (ho : op.op = .build 83 #[(0, x)]) (hw : Region.wanted op (yielded ops a.tmps) = true) (k : Nat) (hx : a.eval x = .int .i64 (k : Int))
    (h : wpList Try.prog ops Q rest (a.put op.dst (wval (k, List.replicate 128 0))) w) : wpList Try.prog ops Q (op :: rest) a w := by
  refine BigFrame.wpList_want hw fun K hK => ?_
  unfold Oper.wp execOp
  simp only [ho, hx, List.map_toArray, List.map_cons, List.map_nil, Sem.run_bind, exec_build, Result.andThen_ok, Sem.run_pure, Oper.upon_value]
  exact hK _ _ h
theorem wl_store (x y : Operand) (ho : op.op = .store 83 x y) (hw : Region.wanted op (yielded ops a.tmps) = true) (B : Nat) (s0 s : Nat × List UInt8) (h0 : s0.2.length = 128) (h1 : s.2.length = 128) (hx : a.eval x = .pointer (some ⟨B, 0, none⟩)) (hy : a.eval y = wval s) (hm : MemC w B 0 (wcell s0))
    (h : ∀ W, Wrote w W B 0 129 → MemC W B 0 (wcell s) → wpList Try.prog ops Q rest (a.put op.dst undef) W) : wpList Try.prog ops Q (op :: rest) a w := by
  have hi : (Try.prog.info? 83).map (·.size) = some (wcell s).toArray.size := by simpa using writeinfo s h1
  have ht : w.there B 0 (wcell s).length := fun j hj => by
    rw [wcell_length s h1] at hj
    have hj' : j < (wcell s0).length := by rw [wcell_length s0 h0]; exact hj
    exact ⟨by rw [hm.at_.cell j hj']; rfl, hm.free j hj'⟩
  refine BigFrame.wpList_want hw fun K hK => wp_store_mid 83 x y ho B 0 (wcell s).toArray hx hy (by simpa using ht) hi (all_oneCell_toArray (wcell_one s)) (hK _ _ ?_)
  rw [List.toList_toArray]
  have hwr := wrote_setCells B (wcell s) w 0
  rw [wcell_length s h1] at hwr
  have hr := World.rangeAt_setCells_same w B 0 (wcell s) ht
  have hz := World.there_setCells ht B 0 (wcell s)
  exact h _ hwr ⟨⟨by rw [hwr.size]; exact hm.at_.lt, fun j hj => hr j _ (List.getElem?_eq_getElem hj)⟩, fun j hj => (hz j hj).2⟩
/-- A new variable that is at once given its value. -/
theorem wl_new (d : Nat) (x : Operand) (ho : op.op = .alloc 83) (hd : op.dst = some d) (ho2 : op2.op = .store 83 (.tmp d) x) (hw : Region.wanted op (yielded ops a.tmps) = true) (s : Nat × List UInt8) (h1 : s.2.length = 128)
    (hx : (a.put op.dst (.pointer (some ⟨w.heap.size, 0, none⟩))).eval x = wval s) (hd2 : (a.put op.dst (.pointer (some ⟨w.heap.size, 0, none⟩))).eval (.tmp d) = .pointer (some ⟨w.heap.size, 0, none⟩)) (hw2 : Region.wanted op2 (yielded ops (a.put op.dst (.pointer (some ⟨w.heap.size, 0, none⟩))).tmps) = true)
    (h : ∀ W, Below w.heap.size w W → MemC W w.heap.size 0 (wcell s) → W.heap.size = w.heap.size + 1 → wpList Try.prog ops Q rest ((a.put op.dst (.pointer (some ⟨w.heap.size, 0, none⟩))).put op2.dst undef) W) : wpList Try.prog ops Q (op :: op2 :: rest) a w := by
  refine wl_alloc ho hw fun W1 hb hm hs => ?_
  refine wl_store (.tmp d) x ho2 hw2 w.heap.size (0, List.replicate 128 0) s (by simp) h1 hd2 hx hm fun W2 hwr hm2 => ?_
  exact h W2 (hb.trans (hwr.below (Nat.le_refl _))) hm2 (by rw [hwr.size, hs])
end

end Go.Proofs.Ytdnhlpddnbholaa
