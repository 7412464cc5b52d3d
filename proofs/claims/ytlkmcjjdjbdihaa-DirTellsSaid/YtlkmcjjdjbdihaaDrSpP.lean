/-
  DirSplit: the plain law.
-/
import Derived.Test.YtlkmcjjdjbdihaaDrWrP
namespace Go.Proofs.Ytlkmcjjdjbdihaa
set_option linter.unusedVariables false
set_option linter.unusedSectionVars false

theorem in_block {s j m : Nat} (hm : 0 < m) : (s / m * m ≤ j ∧ j < s / m * m + m) ↔ j / m = s / m := by
  rw [Nat.div_eq_iff hm]
  generalize s / m * m = p
  omega

theorem split_at {d : Dir} {D s k : Nat} {b : UInt16} (hR : RightD d D) (j : Nat) (hj : j < 2 ^ D) :
    at_ (pointD d (s : Int) (k : Int) b).slots j = if j / 2 ^ (D - k) = s / 2 ^ (D - k) then b else at_ d.slots j := by
  show at_ (setRun d.slots (s / 2 ^ (d.depth.toNat - k) * 2 ^ (d.depth.toNat - k)) (2 ^ (d.depth.toNat - k)) b) j = _
  rw [hR.dep, setRun_at _ _ _ _ _ (by rw [hR.len]; exact hj)]
  by_cases h : j / 2 ^ (D - k) = s / 2 ^ (D - k)
  · rw [if_pos ((in_block (pow_pos2 _)).2 h), if_pos h]
  · rw [if_neg (fun g => h ((in_block (pow_pos2 _)).1 g)), if_neg h]
theorem split_len {d : Dir} {D s k : Nat} {b : UInt16} (hR : RightD d D) : (pointD d (s : Int) (k : Int) b).slots.length = 2 ^ D := by
  show (setRun _ _ _ _).length = _
  rw [setRun_length, hR.len]

theorem fits_up {l : List UInt16} {D s k i : Nat} (h : Fits l D s k) (hi : i < 2 ^ D) (e : i / 2 ^ (D - k) = s / 2 ^ (D - k)) : at_ l i = at_ l s := (h i hi).2 e

section
variable {d : Dir} {D s k : Nat} {b : UInt16} (hR : RightD d D) (hs : s < 2 ^ D) (hk : k < D) (hf : Fits d.slots D s k) (hb : ∀ j, j < 2 ^ D → at_ d.slots j ≠ b) (ho : okb b = true)
include hR hs hk hf hb
theorem split_mine (j : Nat) (hj : j < 2 ^ D) (e : j / 2 ^ (D - (k + 1)) = s / 2 ^ (D - (k + 1))) : Fits (pointD d (s : Int) ((k + 1 : Nat) : Int) b).slots D j (k + 1) := by
  intro i hi
  rw [split_at hR i hi, split_at hR j hj, if_pos e, e]
  by_cases h : i / 2 ^ (D - (k + 1)) = s / 2 ^ (D - (k + 1))
  · rw [if_pos h]; exact ⟨fun _ => h, fun _ => rfl⟩
  · rw [if_neg h]; exact ⟨fun g => absurd g (hb i hi), fun g => absurd g h⟩
theorem split_other (j : Nat) (hj : j < 2 ^ D) (e : j / 2 ^ (D - (k + 1)) ≠ s / 2 ^ (D - (k + 1))) (g : at_ d.slots j = at_ d.slots s) : Fits (pointD d (s : Int) ((k + 1 : Nat) : Int) b).slots D j (k + 1) := by
  intro i hi
  rw [split_at hR i hi, split_at hR j hj, if_neg e, g]
  have e1 := (hf j hj).1 g
  have e2 := hf i hi
  rw [show D - k = D - (k + 1) + 1 by omega, Nat.pow_succ, ← Nat.div_div_eq_div_mul, ← Nat.div_div_eq_div_mul] at e1 e2
  by_cases h : i / 2 ^ (D - (k + 1)) = s / 2 ^ (D - (k + 1))
  · rw [if_pos h]
    exact ⟨fun q => absurd q.symm (hb s hs), fun q => absurd (q.symm.trans h) e⟩
  · rw [if_neg h, e2]
    generalize i / 2 ^ (D - (k + 1)) = x at *
    generalize j / 2 ^ (D - (k + 1)) = y at *
    generalize s / 2 ^ (D - (k + 1)) = z at *
    omega
include ho
theorem split_right : RightD (pointD d (s : Int) ((k + 1 : Nat) : Int) b) D := by
  refine ⟨hR.dep, hR.le, split_len hR, fun j hj => ?_, fun j hj => ?_⟩
  · rw [split_at hR j hj]
    split
    · exact ho
    · exact hR.ok j hj
  · by_cases e : j / 2 ^ (D - (k + 1)) = s / 2 ^ (D - (k + 1))
    · exact ⟨k + 1, hk, split_mine hR hs hk hf hb j hj e⟩
    · by_cases g : at_ d.slots j = at_ d.slots s
      · exact ⟨k + 1, hk, split_other hR hs hk hf hb j hj e g⟩
      · obtain ⟨kj, hkj, fj⟩ := hR.fit j hj
        refine ⟨kj, hkj, fun i hi => ?_⟩
        rw [split_at hR i hi, split_at hR j hj, if_neg e]
        by_cases h : i / 2 ^ (D - (k + 1)) = s / 2 ^ (D - (k + 1))
        · rw [if_pos h]
          have h2 : at_ d.slots i = at_ d.slots s := (hf i hi).2 (div_up h (by omega))
          refine ⟨fun q => absurd q.symm (hb j hj), fun q => absurd ((fj i hi).2 q) (by rw [h2]; exact fun r => g r.symm)⟩
        · rw [if_neg h]
          exact fj i hi
omit ho
theorem split_back : pointD (pointD d (s : Int) ((k + 1 : Nat) : Int) b) (s : Int) ((k + 1 : Nat) : Int) (at_ d.slots s) = d := by
  refine dir_eq rfl (list_at ?_ fun j hj => ?_)
  · show (setRun _ _ _ _).length = _
    rw [setRun_length, split_len hR, hR.len]
  · have hj2 : j < 2 ^ D := by
      have : (setRun (pointD d (s : Int) ((k + 1 : Nat) : Int) b).slots (s / 2 ^ (d.depth.toNat - (k + 1)) * 2 ^ (d.depth.toNat - (k + 1))) (2 ^ (d.depth.toNat - (k + 1))) (at_ d.slots s)).length = 2 ^ D := by rw [setRun_length, split_len hR]
      rw [← this]
      exact hj
    show at_ (setRun (pointD d (s : Int) ((k + 1 : Nat) : Int) b).slots (s / 2 ^ (d.depth.toNat - (k + 1)) * 2 ^ (d.depth.toNat - (k + 1))) (2 ^ (d.depth.toNat - (k + 1))) (at_ d.slots s)) j = _
    rw [hR.dep, setRun_at _ _ _ _ _ (by rw [split_len hR]; exact hj2), split_at hR j hj2]
    by_cases h : j / 2 ^ (D - (k + 1)) = s / 2 ^ (D - (k + 1))
    · rw [if_pos ((in_block (pow_pos2 _)).2 h)]
      exact ((hf j hj2).2 (div_up h (by omega))).symm
    · rw [if_neg (fun g => h ((in_block (pow_pos2 _)).1 g)), if_neg h]
end

/-- So many slots ahead of t are in a block. -/
def inN (p m t : Nat) : Nat := min t (p + m) - min t p
theorem inN_zero (p m : Nat) : inN p m 0 = 0 := by simp [inN]
theorem inN_succ (p m t : Nat) : inN p m (t + 1) = inN p m t + if p ≤ t ∧ t < p + m then 1 else 0 := by
  unfold inN
  split <;> omega
theorem inN_all {p m t : Nat} (h : p + m ≤ t) : inN p m t = m := by unfold inN; omega

end Go.Proofs.Ytlkmcjjdjbdihaa
