/-
  Whole supers in regions that draw their order.
-/
import Derived.Test.YtfnoeligaapnbaaSuR
import Derived.Deep.RegionHeld3
namespace Go.Proofs.Ytfnoeligaapnbaa
open Go.RowKit Go.Shelf
set_option linter.unusedVariables false
set_option linter.unusedSimpArgs false

section
variable {ops : Array Oper} {S : World → Prop} {op : Oper} {a : Act}
theorem yi_load (hw : Region.wanted op (yielded ops a.tmps) = true) (x : Operand) (ho : op.op = .load 27 x) (B : Nat) (s : Sup) (hx : a.eval x = .pointer (some ⟨B, 0, none⟩)) (hS : ∀ w, S w → MemC w B 0 (scells s)) : YieldsIf Try.prog ops S op (sval s) a :=
  yieldsIf_load_mid hw 27 x ho B 0 hx (scells s) _ (fun w h => (hS w h).range) Try.underlying27 rfl (supinfo s)
theorem yi_eql (hw : Region.wanted op (yielded ops a.tmps) = true) (x y : Operand) (ty : TypeId) (ho : op.op = .binOp .eql 27 x y ty) (s t : Sup) (hx : a.eval x = sval s) (hy : a.eval y = sval t) : YieldsIf Try.prog ops S op (.bool (eqS s t)) a :=
  .inl ⟨hw, fun w _ => by
    have e := exec_eql s t x y w
    have hx' : a.eval x = .agg (scells s).toArray := hx
    have hy' : a.eval y = .agg (scells t).toArray := hy
    unfold execOp
    simp only [ho, hx', hy']
    rw [Sem.run_bind, e]
    rfl⟩
theorem yi_same (hw : Region.wanted op (yielded ops a.tmps) = true) (x y : Operand) (ty : TypeId) (ho : op.op = .binOp .eql 27 x y ty) (s : Sup) (hx : a.eval x = sval s) (hy : a.eval y = sval s) : YieldsIf Try.prog ops S op (.bool true) a := by
  have h := yi_eql (S := S) hw x y ty ho s s hx hy
  rwa [(eqS_iff s s).2 rfl] at h
end

theorem same_pages (s t : Sup) : same8 (spage s) (spage t) = eqS s t := by
  rw [Bool.eq_iff_iff, same8_iff, eqS_iff]
  exact ⟨spage_inj, fun h => by rw [h]⟩

end Go.Proofs.Ytfnoeligaapnbaa
