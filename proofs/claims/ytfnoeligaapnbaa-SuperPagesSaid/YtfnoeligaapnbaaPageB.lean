/-
  What a page says: its body, noughts behind it. No Go in sight.
-/
import Derived.Test.YtfnoeligaapnbaaPage
namespace Go.Proofs.Ytfnoeligaapnbaa
set_option linter.unusedVariables false

def full (body : List UInt8) : List UInt8 := body ++ List.replicate (123 - body.length) 0
theorem full_length (body : List UInt8) (h : body.length ≤ 123) : (full body).length = 123 := by simp [full]; omega
theorem said_full (kind : UInt8) (body : List UInt8) : said kind body = kind :: full body := by simp [said, full]
theorem full_full (body : List UInt8) (h : body.length ≤ 123) : full (full body) = full body := by
  have hl := full_length body h
  unfold full at hl ⊢
  rw [hl]; simp
theorem page_head (kind : UInt8) (body : List UInt8) : (pageOf kind body).headD 0 = kind := by simp [pageOf, said]
theorem page_body (kind : UInt8) (body : List UInt8) (h : body.length ≤ 123) : ((pageOf kind body).drop 1).take 123 = full body := by
  unfold pageOf
  rw [said_full, List.cons_append, List.drop_succ_cons, List.drop_zero, List.take_append_of_le_length (by rw [full_length body h]; omega), List.take_of_length_le (by rw [full_length body h]; omega)]
theorem pageOf_full (kind : UInt8) (body : List UInt8) (h : body.length ≤ 123) : pageOf kind (full body) = pageOf kind body := by
  unfold pageOf
  rw [said_full, said_full, full_full body h]
theorem full_take (body : List UInt8) : (full body).take body.length = body := by simp [full]
theorem full_get (body : List UInt8) (j : Nat) (h1 : body.length ≤ j) (h2 : j < 123) : (full body)[j]? = some 0 := by
  unfold full
  rw [List.getElem?_append_right h1, List.getElem?_replicate, if_pos (by omega)]
/-- Every page is what is sealed of what it says. -/
theorem pageOf_of_isPage (p : List UInt8) (hp : isPage p = true) : pageOf (p.headD 0) ((p.drop 1).take 123) = p := by
  unfold isPage at hp
  simp only [Bool.and_eq_true, decide_eq_true_eq] at hp
  obtain ⟨hl, hs⟩ := hp
  have hb : ((p.drop 1).take 123).length = 123 := by simp; omega
  have h1 : said (p.headD 0) ((p.drop 1).take 123) = p.take 124 := by
    unfold said
    rw [hb]
    cases p with
    | nil => simp at hl
    | cons x p => simp
  unfold pageOf
  rw [h1, ← hs]
  have h2 := be_num8 (p.drop 124)
  rw [show (p.drop 124).length = 4 by simp; omega] at h2
  rw [h2, List.take_append_drop]

end Go.Proofs.Ytfnoeligaapnbaa
