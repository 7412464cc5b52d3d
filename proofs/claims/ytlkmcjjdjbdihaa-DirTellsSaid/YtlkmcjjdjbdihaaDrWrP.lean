/-
  DirWrong: the plain law.
-/
import Derived.Test.YtlkmcjjdjbdihaaDrDblP
namespace Go.Proofs.Ytlkmcjjdjbdihaa
set_option linter.unusedVariables false

theorem div_up {a b p q : Nat} (h : a / 2 ^ p = b / 2 ^ p) (hpq : p ≤ q) : a / 2 ^ q = b / 2 ^ q := by
  have e : (2 : Nat) ^ q = 2 ^ p * 2 ^ (q - p) := by rw [← Nat.pow_add]; congr 1; omega
  rw [e, ← Nat.div_div_eq_div_mul, ← Nat.div_div_eq_div_mul, h]
theorem flip_up (a q p : Nat) (h : q < p) : (a ^^^ 2 ^ q) / 2 ^ p = a / 2 ^ p := by
  rw [Nat.xor_div_two_pow, Nat.div_eq_of_lt (Nat.pow_lt_pow_right (by omega) h), Nat.xor_zero]
theorem flip_at (a q : Nat) : (a ^^^ 2 ^ q) / 2 ^ q ≠ a / 2 ^ q := by
  rw [Nat.xor_div_two_pow, Nat.div_self (pow_pos2 q)]
  intro h
  have h2 : a / 2 ^ q ^^^ (a / 2 ^ q ^^^ 1) = a / 2 ^ q ^^^ a / 2 ^ q := by rw [h]
  rw [← Nat.xor_assoc, Nat.xor_self, Nat.zero_xor] at h2
  omega
theorem flip_lt {a q D : Nat} (ha : a < 2 ^ D) (hq : q < D) : a ^^^ 2 ^ q < 2 ^ D := Nat.xor_lt_two_pow ha (Nat.pow_lt_pow_right (by omega) hq)

theorem set_at (l : List UInt16) (i j : Nat) (x : UInt16) (hj : j < l.length) : at_ (l.set i x) j = if j = i then x else at_ l j := by
  simp only [at_, List.getD_eq_getElem?_getD, List.getElem?_set]
  by_cases e : i = j
  · subst e; simp [hj]
  · rw [if_neg e, if_neg (by omega)]

def badD (d : Dir) (i k : Nat) : Dir := ⟨d.depth, d.slots.set i (at_ d.slots k)⟩

theorem wrong_law {d : Dir} {D i k ki kk : Nat} (hR : RightD d D) (hi : i < 2 ^ D) (hk : k < 2 ^ D) (hne : at_ d.slots i ≠ at_ d.slots k) (hki : ki ≤ D) (hkk : kk ≤ D) (fi : Fits d.slots D i ki) (fk : Fits d.slots D k kk) :
    rightB (badD d i k) = decide (D - ki = 0 ∧ D - kk = 0 ∧ i / 2 = k / 2) := by
  have hik : i ≠ k := fun e => hne (by rw [e])
  have hb : ∀ j, j < 2 ^ D → at_ (badD d i k).slots j = if j = i then at_ d.slots k else at_ d.slots j := fun j hj => set_at _ _ _ _ (by rw [hR.len]; exact hj)
  have hdep : (badD d i k).depth.toNat = D := hR.dep
  rw [Bool.eq_iff_iff, decide_eq_true_eq, rightB_iff, hdep]
  constructor
  · intro hB
    obtain ⟨m, hm, fm⟩ := hB.fit k hk
    obtain ⟨p, hp⟩ : ∃ p, p = D - m := ⟨_, rfl⟩
    obtain ⟨q, hq⟩ : ∃ q, q = D - kk := ⟨_, rfl⟩
    have hbk : at_ (badD d i k).slots k = at_ d.slots k := by rw [hb k hk, if_neg (fun e => hik e.symm)]
    have g1 : ∀ j, j < 2 ^ D → (j / 2 ^ p = k / 2 ^ p ↔ j = i ∨ at_ d.slots j = at_ d.slots k) := fun j hj => by
      rw [hp, ← fm j hj, hbk, hb j hj]
      by_cases e : j = i
      · simp [e]
      · simp [e]
    have g2 : ∀ j, j < 2 ^ D → (at_ d.slots j = at_ d.slots k ↔ j / 2 ^ q = k / 2 ^ q) := fun j hj => by rw [hq]; exact fk j hj
    have h1 : i / 2 ^ p = k / 2 ^ p := (g1 i hi).2 (.inl rfl)
    have h2 : i / 2 ^ q ≠ k / 2 ^ q := fun e => hne ((g2 i hi).2 e)
    have hpq : q < p := by
      false_or_by_contra
      exact h2 (div_up h1 (by omega))
    have key : ∀ j, j < 2 ^ D → j / 2 ^ p = k / 2 ^ p → j / 2 ^ q ≠ k / 2 ^ q → j = i := fun j hj e1 e2 => by
      rcases (g1 j hj).1 e1 with e | e
      · exact e
      · exact absurd ((g2 j hj).1 e) e2
    have hjl : k ^^^ 2 ^ q < 2 ^ D := flip_lt hk (by omega)
    have hj := key _ hjl (flip_up k q p hpq) (flip_at k q)
    have hq0 : q = 0 := by
      false_or_by_contra
      have e1 : ((k ^^^ 2 ^ q) ^^^ 2 ^ 0) / 2 ^ q = (k ^^^ 2 ^ q) / 2 ^ q := flip_up _ 0 q (by omega)
      have h3 := key ((k ^^^ 2 ^ q) ^^^ 2 ^ 0) (flip_lt hjl (by omega)) (by rw [flip_up _ 0 p (by omega), flip_up k q p hpq]) (by rw [e1]; exact flip_at k q)
      rw [← hj] at h3
      exact flip_at (k ^^^ 2 ^ q) 0 (by rw [h3])
    have hi2 : i / 2 ^ 1 = k / 2 ^ 1 := by rw [← hj]; exact flip_up k q 1 (by omega)
    refine ⟨?_, by omega, by simpa using hi2⟩
    false_or_by_contra
    rename_i h0
    exact hne ((fi k hk).2 (div_up hi2.symm (by omega))).symm
  · rintro ⟨h1, h2, h3⟩
    unfold Fits at fi fk
    rw [h1] at fi
    rw [h2] at fk
    simp only [Nat.pow_zero, Nat.div_one] at fi fk
    have hD : 1 ≤ D := by
      false_or_by_contra
      have : D = 0 := by omega
      subst this
      omega
    refine ⟨hdep, hR.le, by show (d.slots.set i _).length = _; rw [List.length_set]; exact hR.len, fun s hs => ?_, fun s hs => ?_⟩
    · rw [hb s hs]
      split
      · exact hR.ok k hk
      · exact hR.ok s hs
    · by_cases hsi : s = i ∨ s = k
      · refine ⟨D - 1, by omega, fun j hj => ?_⟩
        have hbs : at_ (badD d i k).slots s = at_ d.slots k := by
          rw [hb s hs]
          rcases hsi with e | e
          · rw [if_pos e]
          · rw [if_neg (by omega), e]
        rw [hbs, hb j hj, show D - (D - 1) = 1 by omega]
        by_cases e : j = i
        · rw [if_pos e]
          simp
          omega
        · rw [if_neg e, fk j hj]
          simp
          omega
      · obtain ⟨ks, hks, fs⟩ := hR.fit s hs
        refine ⟨ks, hks, fun j hj => ?_⟩
        rw [hb s hs, if_neg (fun e => hsi (.inl e)), hb j hj]
        by_cases e : j = i
        · rw [if_pos e]
          have n1 : ¬ at_ d.slots k = at_ d.slots s := fun h => hsi (.inr ((fk s hs).1 h.symm))
          have n2 : ¬ at_ d.slots i = at_ d.slots s := fun h => hsi (.inl ((fi s hs).1 h.symm))
          rw [e, ← fs i hi]
          exact ⟨fun h => absurd h n1, fun h => absurd h n2⟩
        · rw [if_neg e]
          exact fs j hj

end Go.Proofs.Ytlkmcjjdjbdihaa
