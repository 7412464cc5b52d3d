/-
  What is owned, told as a stretch.
-/
import Derived.Test.YtfnoeligaapnbaaOctX
namespace Go.Proofs.Ytfnoeligaapnbaa
open Go.RowKit
set_option linter.unusedVariables false

theorem own_shape {w : World} {base n : Nat} {e : TypeId} {v : Value} {xs : List Value} (h : w.ownsRow base e 1 v n xs) (hv : v ≠ .slice none 0 0) : ∃ g cap, v = .slice (some ⟨g, 0, none⟩) n cap ∧ base ≤ g ∧ n ≤ cap ∧ cap ≤ maxLen ∧ g < w.heap.size := by
  rcases h.2 with ⟨rfl, _⟩ | ⟨g, cap, cur, rfl, hg, hh, hn, hm, _⟩
  · exact absurd rfl hv
  · exact ⟨g, cap, rfl, hg, hn, hm, (Array.getElem?_eq_some_iff.1 hh).1⟩

theorem Mem8.of_own {w : World} {g cap base : Nat} {l : List UInt8} {e : TypeId} (h : w.ownsRow base e 1 (.slice (some ⟨g, 0, none⟩) l.length cap) l.length (bcells l)) : Mem8 w g 0 l.length l := by
  rcases h.2 with ⟨e, _⟩ | ⟨g', cap', cur, e, hg, hh, hn, hm, hs, ht⟩
  · cases e
  · injection e with e1 _ _
    injection e1 with e1
    injection e1 with e1
    subst e1
    refine Mem8.of_blk hh rfl (fun j hj => ?_) (.inr (by simp))
    have e1 : cur.toList[j]? = (bcells l)[j]? := by rw [← ht, List.getElem?_take]; simp [hj]
    rw [Nat.zero_add, ← Array.getElem?_toList, e1, bcells_get hj]

end Go.Proofs.Ytfnoeligaapnbaa
