/-
  Supers' pages that are torn, or of which a byte is changed. No Go in sight.
-/
import Derived.Test.YtfnoeligaapnbaaSuPlain
namespace Go.Proofs.Ytfnoeligaapnbaa
set_option linter.unusedVariables false

theorem again_bytes (s : Sup) : ((sbody s).drop 115).take 8 = be s.gen.toNat 8 := by
  unfold sbody
  rw [← List.append_assoc, show (115 : Nat) = (flatS s 18 ++ List.replicate 7 (0 : UInt8)).length by rw [List.length_append, flatS_length]; rfl, List.drop_left]
  exact List.take_of_length_le (by rw [be_length]; decide)
theorem page_at (s : Sup) (j : Nat) (h : j < 123) : (spage s)[1 + j]? = (sbody s)[j]? := by
  rw [← bodyOf_page s]
  unfold bodyOf
  rw [List.getElem?_take, if_pos h, List.getElem?_drop]
theorem gen_lo (s : Sup) (j : Nat) (h : j < 8) : (spage s)[1 + j]? = (be s.gen.toNat 8)[j]? := by
  rw [page_at s j (by omega)]
  have e : (sbody s).take 8 = be s.gen.toNat 8 := pieceS_body s 0 (by omega)
  rw [← e, List.getElem?_take, if_pos h]
theorem gen_hi (s : Sup) (j : Nat) (h : j < 8) : (spage s)[116 + j]? = (be s.gen.toNat 8)[j]? := by
  rw [show 116 + j = 1 + (115 + j) by omega, page_at s _ (by omega), ← again_bytes s, List.getElem?_take, if_pos h, List.getElem?_drop]
theorem head_at (s : Sup) : (spage s)[0]? = some 6 := rfl
theorem gen_of {s t : Sup} (h : ∀ j, j < 8 → (spage s)[1 + j]? = (spage t)[1 + j]?) : s.gen = t.gen := by
  have hb : be s.gen.toNat 8 = be t.gen.toNat 8 := List.ext_getElem? fun j => by
    by_cases hj : j < 8
    · rw [← gen_lo s j hj, ← gen_lo t j hj, h j hj]
    · rw [List.getElem?_eq_none (by rw [be_length]; omega), List.getElem?_eq_none (by rw [be_length]; omega)]
  have e := congrArg num8 hb
  rw [num8_be, num8_be, Nat.mod_eq_of_lt (UInt64.toNat_lt _), Nat.mod_eq_of_lt (UInt64.toNat_lt _)] at e
  exact UInt64.toNat_inj.1 e
theorem page_ext {u t : Sup} (h : ∀ i, i < 124 → (spage u)[i]? = (spage t)[i]?) : spage u = spage t := by
  have hb : sbody u = sbody t := List.ext_getElem? fun j => by
    by_cases hj : j < 123
    · rw [← page_at u j hj, ← page_at t j hj, h _ (by omega)]
    · rw [List.getElem?_eq_none (by rw [sbody_length]; omega), List.getElem?_eq_none (by rw [sbody_length]; omega)]
  unfold spage
  rw [hb]

/-- The one page, torn as it is written over the other. -/
def tornL (p q : List UInt8) (c : Nat) : List UInt8 := q.take c ++ p.drop c
theorem tornL_length (p q : List UInt8) (c : Nat) (hp : p.length = 128) (hq : q.length = 128) (hc : c ≤ 128) : (tornL p q c).length = 128 := by
  unfold tornL
  rw [List.length_append, List.length_take, List.length_drop]
  omega
theorem torn_at (p q : List UInt8) (c : Nat) (hq : q.length = 128) (hc : c ≤ 128) (i : Nat) : (tornL p q c)[i]? = if i < c then q[i]? else p[i]? := by
  unfold tornL
  by_cases h : i < c
  · rw [if_pos h, List.getElem?_append_left (by rw [List.length_take]; omega), List.getElem?_take, if_pos h]
  · rw [if_neg h, List.getElem?_append_right (by rw [List.length_take]; omega), List.length_take, List.getElem?_drop]
    congr 1
    omega
theorem torn_not (s t : Sup) (hne : s.gen ≠ t.gen) (c : Nat) (hc : c ≤ 128) (h1 : tornL (spage s) (spage t) c ≠ spage t) (h2 : tornL (spage s) (spage t) c ≠ spage s) : isSup (tornL (spage s) (spage t) c) = false := by
  cases h : isSup (tornL (spage s) (spage t) c) with
  | false => rfl
  | true =>
    exfalso
    obtain ⟨u, hu⟩ : ∃ u, spage u = tornL (spage s) (spage t) c := ⟨_, (page_of_isSup h).1⟩
    have at_ : ∀ i, (spage u)[i]? = if i < c then (spage t)[i]? else (spage s)[i]? := fun i => by rw [hu]; exact torn_at _ _ c (spage_length t) hc i
    by_cases c9 : c ≤ 9
    · apply h2
      rw [← hu]
      refine page_ext fun i hi => ?_
      by_cases hic : i < c
      · by_cases i0 : i = 0
        · subst i0
          rw [head_at, head_at]
        · obtain ⟨j, rfl⟩ : ∃ j, i = 1 + j := ⟨i - 1, by omega⟩
          rw [gen_lo u j (by omega), ← gen_hi u j (by omega), at_, if_neg (by omega), gen_hi s j (by omega), ← gen_lo s j (by omega)]
      · rw [at_, if_neg hic]
    · by_cases c116 : 116 ≤ c
      · apply h1
        rw [← hu]
        refine page_ext fun i hi => ?_
        by_cases hic : i < c
        · rw [at_, if_pos hic]
        · obtain ⟨j, rfl⟩ : ∃ j, i = 116 + j := ⟨i - 116, by omega⟩
          rw [gen_hi u j (by omega), ← gen_lo u j (by omega), at_, if_pos (by omega), gen_lo t j (by omega), ← gen_hi t j (by omega)]
      · apply hne
        refine gen_of fun j hj => ?_
        have a1 := at_ (1 + j)
        rw [if_pos (by omega)] at a1
        have a2 := at_ (116 + j)
        rw [if_neg (by omega)] at a2
        rw [gen_lo u j hj] at a1
        rw [gen_hi u j hj, gen_hi s j hj, ← gen_lo s j hj] at a2
        rw [← a2, ← a1]

theorem isSup_set (s : Sup) (i : Nat) (x : UInt8) (hi : i < (spage s).length) (hx : x ≠ (spage s)[i]) : isSup ((spage s).set i x) = false := by
  have h1 : isPage (spage s) = true := pageOf_isPage _ _ (by rw [sbody_length]; decide)
  have h2 := isPage_set (spage s) i x hi h1 hx
  unfold isSup
  rw [h2]
  rfl

end Go.Proofs.Ytfnoeligaapnbaa
