/-
  ShelfHalves: the plain law.
-/
import Derived.Test.YtcljobkdihbflaaShPlain
namespace Go.Proofs.Ytcljobkdihbflaa
set_option linter.unusedVariables false

theorem elt_iff {a b : Ent} : eltB a b = true ↔ (a.1.toNat < b.1.toNat ∨ a.1.toNat = b.1.toNat ∧ a.2.toNat < b.2.toNat) := by unfold eltB; simp
theorem elt_trans {a b c : Ent} (h : eltB a b = true) (k : eltB b c = true) : eltB a c = true := by
  rw [elt_iff] at *; omega
theorem elt_asymm {a b : Ent} (h : eltB a b = true) : eltB b a = false := by
  cases hk : eltB b a
  · rfl
  · rw [elt_iff] at *; omega
theorem okB_iff {l : List Ent} {i : Nat} : okB l i = true ↔ blkB (l.getD i e0) = true ∧ (i = 0 ∨ eltB (l.getD (i - 1) e0) (l.getD i e0) = true) := by
  unfold okB; simp
theorem rising {l : List Ent} (h : upB l l.length = true) : ∀ (d i : Nat), i + d + 1 < l.length → eltB (l.getD i e0) (l.getD (i + d + 1) e0) = true
  | 0, i, hi => by
    have := (okB_iff.1 (upB_iff.1 h (i + 1) hi)).2
    rcases this with h | h
    · omega
    · simpa using h
  | d + 1, i, hi => by
    have h1 := rising h d i (by omega)
    have h2 := (okB_iff.1 (upB_iff.1 h (i + (d + 1) + 1) hi)).2
    rcases h2 with h2 | h2
    · omega
    · refine elt_trans h1 ?_
      rwa [show i + (d + 1) + 1 - 1 = i + d + 1 by omega] at h2
theorem rise {l : List Ent} (h : upB l l.length = true) {i j : Nat} (hij : i < j) (hj : j < l.length) : eltB (l.getD i e0) (l.getD j e0) = true := by
  have := rising h (j - i - 1) i (by omega)
  rwa [show i + (j - i - 1) + 1 = j by omega] at this
theorem print_le {l : List Ent} (h : upB l l.length = true) {i j : Nat} (hij : i ≤ j) (hj : j < l.length) : (l.getD i e0).1.toNat ≤ (l.getD j e0).1.toNat := by
  rcases Nat.lt_or_eq_of_le hij with h1 | h1
  · have := elt_iff.1 (rise h h1 hj); omega
  · subst h1; exact Nat.le_refl _
/-- All are alike in their first bits, if the first and the last one are. -/
theorem alike_all {l : List Ent} {d : Nat} (h : upB l l.length = true) (ha : alikeB l d = true) {i : Nat} (hi : i < l.length) : (l.getD i e0).1.toNat / 2 ^ (64 - d) = (l.getD 0 e0).1.toNat / 2 ^ (64 - d) := by
  have h1 := of_decide_eq_true ha
  have h2 := Nat.div_le_div_right (c := 2 ^ (64 - d)) (print_le h (Nat.zero_le i) hi)
  have h3 := Nat.div_le_div_right (c := 2 ^ (64 - d)) (print_le h (show i ≤ l.length - 1 by omega) (by omega))
  omega

def withE (s : Shelf) (l : List Ent) : Shelf := ⟨s.depth, s.next, l⟩
theorem right_with (s : Shelf) (l : List Ent) (h : rightB s = true) (hl : l.length ≤ 9) (hu : upB l l.length = true) (ha : alikeB l s.depth.toNat = true) : rightB (withE s l) = true := by
  obtain ⟨h1, h2, _, _, _⟩ := rightB_iff.1 h
  exact rightB_iff.2 ⟨h1, h2, hl, hu, ha⟩

theorem getD_take (l : List Ent) (k i : Nat) (h : i < k) : (l.take k).getD i e0 = l.getD i e0 := by
  simp [List.getD_eq_getElem?_getD, h]
theorem getD_drop (l : List Ent) (k i : Nat) : (l.drop k).getD i e0 = l.getD (k + i) e0 := by
  simp [List.getD_eq_getElem?_getD, List.getElem?_drop]

theorem half_a (s : Shelf) (k : Nat) (h : rightB s = true) (hk : k ≤ s.ents.length) : rightB (withE s (s.ents.take k)) = true := by
  obtain ⟨h1, h2, h3, h4, h5⟩ := rightB_iff.1 h
  have hl : (s.ents.take k).length = k := by simp; omega
  refine right_with s _ h (by omega) ?_ ?_
  · rw [hl]
    refine upB_iff.2 fun i hi => ?_
    have := okB_iff.1 (upB_iff.1 h4 i (by omega))
    rw [okB_iff, getD_take _ _ _ hi, getD_take _ _ _ (by omega)]
    exact this
  · by_cases hk0 : k = 0
    · subst hk0
      have : s.ents.take 0 = [] := rfl
      rw [this]; simp [alikeB]
    · unfold alikeB
      rw [hl, getD_take _ _ _ (by omega), getD_take _ _ _ (by omega)]
      exact decide_eq_true (alike_all h4 h5 (show k - 1 < _ by omega)).symm

theorem half_b (s : Shelf) (k : Nat) (h : rightB s = true) (hk : k ≤ s.ents.length) : rightB (withE s (s.ents.drop k)) = true := by
  obtain ⟨h1, h2, h3, h4, h5⟩ := rightB_iff.1 h
  have hl : (s.ents.drop k).length = s.ents.length - k := by simp
  refine right_with s _ h (by omega) ?_ ?_
  · rw [hl]
    refine upB_iff.2 fun i hi => ?_
    have := okB_iff.1 (upB_iff.1 h4 (k + i) (by omega))
    rw [okB_iff, getD_drop, getD_drop]
    refine ⟨this.1, ?_⟩
    by_cases hi0 : i = 0
    · exact .inl hi0
    · rcases this.2 with h | h
      · omega
      · right
        rwa [show k + (i - 1) = k + i - 1 by omega]
  · by_cases hk0 : k = s.ents.length
    · have : s.ents.drop k = [] := by rw [hk0]; simp
      rw [this]; simp [alikeB]
    · unfold alikeB
      rw [hl, getD_drop, getD_drop]
      rw [alike_all h4 h5 (show k + 0 < _ by omega), alike_all h4 h5 (show k + (s.ents.length - k - 1) < _ by omega)]
      simp

theorem half_c (s : Shelf) (k : Nat) (h : rightB s = true) (hk : k ≤ s.ents.length) : rightB (withE s (s.ents.drop k ++ s.ents.take k)) = (decide (k = 0) || decide (k = s.ents.length)) := by
  obtain ⟨h1, h2, h3, h4, h5⟩ := rightB_iff.1 h
  by_cases hk0 : k = 0
  · subst hk0
    simp only [List.drop_zero, List.take_zero, List.append_nil, decide_true, Bool.true_or]
    exact right_with s _ h h3 h4 h5
  · by_cases hkn : k = s.ents.length
    · rw [decide_eq_true hkn, Bool.or_true, hkn, List.drop_length, List.take_length, List.nil_append]
      exact right_with s _ h h3 h4 h5
    · rw [decide_eq_false hk0, decide_eq_false hkn]
      cases hr : rightB (withE s (s.ents.drop k ++ s.ents.take k))
      · rfl
      · obtain ⟨_, _, _, h4', _⟩ := rightB_iff.1 hr
        have hl : (withE s (s.ents.drop k ++ s.ents.take k)).ents.length = s.ents.length := by simp [withE]; omega
        rw [hl] at h4'
        have h6 := (okB_iff.1 (upB_iff.1 h4' (s.ents.length - k) (by omega))).2
        rcases h6 with h6 | h6
        · omega
        · exfalso
          have e1 : (withE s (s.ents.drop k ++ s.ents.take k)).ents.getD (s.ents.length - k) e0 = s.ents.getD 0 e0 := by
            show (s.ents.drop k ++ s.ents.take k).getD _ _ = _
            rw [List.getD_eq_getElem?_getD, List.getElem?_append_right (by simp), List.length_drop, Nat.sub_self, ← List.getD_eq_getElem?_getD, getD_take _ _ _ (by omega)]
          have e2 : (withE s (s.ents.drop k ++ s.ents.take k)).ents.getD (s.ents.length - k - 1) e0 = s.ents.getD (s.ents.length - 1) e0 := by
            show (s.ents.drop k ++ s.ents.take k).getD _ _ = _
            rw [List.getD_eq_getElem?_getD, List.getElem?_append_left (by simp; omega), ← List.getD_eq_getElem?_getD, getD_drop]
            congr 1
            omega
          rw [e1, e2, elt_asymm (rise h4 (show 0 < s.ents.length - 1 by omega) (by omega))] at h6
          cases h6

end Go.Proofs.Ytcljobkdihbflaa
