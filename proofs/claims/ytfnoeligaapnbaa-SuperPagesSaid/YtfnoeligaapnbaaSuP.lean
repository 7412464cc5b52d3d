/-
  Encode for every super; what a page of a super is decoded to.
-/
import Derived.Test.YtfnoeligaapnbaaSuK
import Derived.Test.YtfnoeligaapnbaaSuM
import Derived.Test.YtfnoeligaapnbaaSuPl2
namespace Go.Proofs.Ytfnoeligaapnbaa
open Go.RowKit Go.Shelf
set_option linter.unusedVariables false
set_option linter.unusedSimpArgs false

def encL (s : Sup) : List UInt8 := if rightS s = true then spage s else []
def encE (s : Sup) : Int := if rightS s = true then 0 else 60
theorem encode_u (s : Sup) (w : World) : Calls Try.prog 12 #[sval s] w fun e w' => RetR w w' (fun v => .tuple #[v, .int .i64 (encE s)]) (encL s) e := by
  unfold encL encE
  cases h : rightS s
  · refine (encode_bad s w h).mono ?_
    rintro e w' ⟨rfl, hb⟩
    exact ⟨none, 0, 0, rfl, Reads8.nil _ _, Nat.le_refl _, hb⟩
  · refine (encode_good s w h).mono ?_
    rintro e w' ⟨v, rfl, hf⟩
    exact hf.ret fun v => .tuple #[v, .int .i64 0]
theorem rencode_u (s : Sup) (w : World) : Calls Try.prog 13 #[sval s] w fun e w' => RetR w w' (fun v => .tuple #[v, .int .i64 (encE s)]) (encL s) e := by
  unfold encL encE
  cases h : rightS s
  · refine (rencode_bad s w h).mono ?_
    rintro e w' ⟨rfl, hb⟩
    exact ⟨none, 0, 0, rfl, Reads8.nil _ _, Nat.le_refl _, hb⟩
  · refine (rencode_good s w h).mono ?_
    rintro e w' ⟨v, rfl, hf⟩
    exact hf.ret fun v => .tuple #[v, .int .i64 0]
theorem encL_length (s : Sup) : (encL s).length ≤ 128 := by
  unfold encL
  split
  · rw [spage_length]; exact Nat.le_refl _
  · simp
theorem encE_eq (s : Sup) : (encE s == 0) = rightS s ∧ (encE s != 0) = !rightS s := by
  unfold encE
  cases rightS s <;> decide
theorem decS_page {s : Sup} (h : rightS s = true) : decS (spage s) = s ∧ decE (spage s) = 0 := by
  unfold decS decE
  rw [isSup_page, h, supOf_page]
  exact ⟨rfl, rfl⟩
theorem decS_no {p : List UInt8} (h : isSup p = false) : decS p = noS ∧ decE p = 60 := by
  unfold decS decE
  rw [h]
  exact ⟨rfl, rfl⟩
theorem encL_good {s : Sup} (h : rightS s = true) : encL s = spage s ∧ encE s = 0 := by
  unfold encL encE
  rw [h]
  exact ⟨rfl, rfl⟩
theorem encL_bad {s : Sup} (h : rightS s = false) : encL s = [] ∧ encE s = 60 := by
  unfold encL encE
  rw [h]
  exact ⟨rfl, rfl⟩

end Go.Proofs.Ytfnoeligaapnbaa
