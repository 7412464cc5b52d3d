/-
  Pages with one byte changed; numbers apart. No Go in sight.
-/
import Derived.Test.YtfnoeligaapnbaaNum
namespace Go.Proofs.Ytfnoeligaapnbaa
set_option linter.unusedVariables false

theorem num8_inj {l k : List UInt8} (hl : l.length = k.length) (h : num8 l = num8 k) : l = k := by
  have h1 := be_num8 l
  have h2 := be_num8 k
  rw [h, hl, h2] at h1
  exact h1.symm

theorem set_split (l : List UInt8) (i : Nat) (x : UInt8) (h : i < l.length) : l.set i x = l.take i ++ x :: l.drop (i + 1) := by
  rw [List.set_eq_take_append_cons_drop, if_pos h]
theorem self_split (l : List UInt8) (i : Nat) (h : i < l.length) : l = l.take i ++ l[i] :: l.drop (i + 1) := by
  rw [List.getElem_cons_drop, List.take_append_drop]

theorem sum8_set (l : List UInt8) (i : Nat) (x : UInt8) (h : i < l.length) (hne : x ≠ l[i]) : sum8 (l.set i x) ≠ sum8 l := by
  intro e
  rw [set_split l i x h] at e
  have e2 := congrArg sum8 (self_split l i h)
  exact sum8_one _ _ _ _ hne (e.trans e2)

/-- A page in which one byte is another one is none. -/
theorem isPage_set (p : List UInt8) (i : Nat) (x : UInt8) (hi : i < p.length) (hp : isPage p = true) (hne : x ≠ p[i]) : isPage (p.set i x) = false := by
  unfold isPage at hp ⊢
  simp only [Bool.and_eq_true, decide_eq_true_eq] at hp
  obtain ⟨hl, hs⟩ := hp
  have h128 : (p.set i x).length = 128 := by simp [hl]
  rw [Bool.and_eq_false_iff]
  right
  rw [decide_eq_false_iff_not]
  intro e
  by_cases h : i < 124
  · have e1 : (p.set i x).drop 124 = p.drop 124 := by rw [List.drop_set, if_pos (by omega)]
    have e2 : (p.set i x).take 124 = (p.take 124).set i x := by rw [List.take_set]
    rw [e1, e2, hs] at e
    exact sum8_set (p.take 124) i x (by simp; omega) (by simpa using hne) e.symm
  · have e1 : (p.set i x).drop 124 = (p.drop 124).set (i - 124) x := by rw [List.drop_set, if_neg (by omega)]
    have e2 : (p.set i x).take 124 = p.take 124 := by rw [List.take_set, List.set_eq_of_length_le (by simp; omega)]
    rw [e1, e2, ← hs] at e
    have e3 := num8_inj (by simp) e
    have hlt : i - 124 < (p.drop 124).length := by simp; omega
    have e4 : ((p.drop 124).set (i - 124) x)[i - 124]'(by simp; omega) = (p.drop 124)[i - 124] := by simp only [e3]
    rw [List.getElem_set_self] at e4
    apply hne
    rw [e4]
    have hix : 124 + (i - 124) = i := by omega
    simp only [List.getElem_drop, hix]

end Go.Proofs.Ytfnoeligaapnbaa
