/-
  DirBuckets: the plain part.
-/
import Derived.Test.YtlkmcjjdjbdihaaDrLWt
import Derived.Test.YtlkmcjjdjbdihaaDrSpP
namespace Go.Proofs.Ytlkmcjjdjbdihaa
open Go.RowKit Go.Maps
set_option linter.unusedVariables false

def cntL (n : Nat) (pf mf : Nat → Nat) (t : Nat) : List Int := (List.range n).map fun i => ((inN (pf i) (mf i) t : Nat) : Int)
def cntM (n : Nat) (pf mf : Nat → Nat) (t j : Nat) : List Int := (List.range n).map fun i => ((inN (pf i) (mf i) t + (if pf t ≤ i ∧ i < pf t + j then 1 else 0) : Nat) : Int)
theorem cntL_length (n : Nat) (pf mf : Nat → Nat) (t : Nat) : (cntL n pf mf t).length = n := by simp [cntL]
theorem cntM_length (n : Nat) (pf mf : Nat → Nat) (t j : Nat) : (cntM n pf mf t j).length = n := by simp [cntM]
theorem cntL_zero (n : Nat) (pf mf : Nat → Nat) : cntL n pf mf 0 = List.replicate n 0 := by
  refine List.ext_getElem (by simp [cntL]) fun i h1 h2 => ?_
  simp [cntL, inN_zero]
theorem cntM_zero (n : Nat) (pf mf : Nat → Nat) (t : Nat) : cntM n pf mf t 0 = cntL n pf mf t := by
  refine List.ext_getElem (by simp [cntL, cntM]) fun i h1 h2 => ?_
  simp only [cntL, cntM, List.getElem_map, List.getElem_range]
  rw [if_neg (by omega), Nat.add_zero]
theorem cntM_all (n : Nat) (pf mf : Nat → Nat) (t : Nat) (h : ∀ i, i < n → ((pf t ≤ i ∧ i < pf t + mf t) ↔ (pf i ≤ t ∧ t < pf i + mf i))) : cntM n pf mf t (mf t) = cntL n pf mf (t + 1) := by
  refine List.ext_getElem (by simp [cntL, cntM]) fun i h1 h2 => ?_
  simp only [cntL, cntM, List.getElem_map, List.getElem_range]
  rw [inN_succ]
  have hi : i < n := by simpa [cntM] using h1
  by_cases hc : pf t ≤ i ∧ i < pf t + mf t
  · rw [if_pos hc, if_pos ((h i hi).1 hc)]
  · rw [if_neg hc, if_neg (fun g => hc ((h i hi).2 g))]
theorem cntM_set (n : Nat) (pf mf : Nat → Nat) (t j : Nat) (h : pf t + j < n) : (cntM n pf mf t j).set (pf t + j) (((inN (pf (pf t + j)) (mf (pf t + j)) t : Nat) : Int) + 1) = cntM n pf mf t (j + 1) := by
  refine List.ext_getElem (by simp [cntM]) fun i h1 h2 => ?_
  rw [List.getElem_set]
  by_cases e : pf t + j = i
  · rw [if_pos e]
    subst e
    simp only [cntM, List.getElem_map, List.getElem_range]
    rw [if_pos (by omega)]
    rfl
  · rw [if_neg e]
    simp only [cntM, List.getElem_map, List.getElem_range]
    by_cases hc : pf t ≤ i ∧ i < pf t + j
    · rw [if_pos hc, if_pos (by omega)]
    · rw [if_neg hc, if_neg (by omega)]
theorem cntM_get (n : Nat) (pf mf : Nat → Nat) (t j : Nat) (h : pf t + j < n) : (icells (cntM n pf mf t j))[pf t + j]? = some (.int .i64 ((inN (pf (pf t + j)) (mf (pf t + j)) t : Nat) : Int)) := by
  rw [List.getElem?_eq_getElem (by rw [icells_length, cntM_length]; exact h), icells_get (by rw [cntM_length]; exact h)]
  simp only [cntM, List.getElem_map, List.getElem_range]
  rw [if_neg (by omega), Nat.add_zero]
theorem cntL_get (n : Nat) (pf mf : Nat → Nat) (t s : Nat) (h : s < n) : (icells (cntL n pf mf t))[s]? = some (.int .i64 ((inN (pf s) (mf s) t : Nat) : Int)) := by
  rw [List.getElem?_eq_getElem (by rw [icells_length, cntL_length]; exact h), icells_get (by rw [cntL_length]; exact h)]
  simp only [cntL, List.getElem_map, List.getElem_range]
theorem slotsR_get (p z m j : Nat) (h : j < m) : (slotsR (p, z) m)[j]'(by rw [slotsR_length]; exact h) = ((p + j : Nat) : Int) := by simp [slotsR]

/-- The buckets of a right directory, slot by slot. -/
structure Bks (d : Dir) (n : Nat) (kf pf mf : Nat → Nat) : Prop where
  k_le : ∀ s, s < n → kf s ≤ d.depth.toNat
  fit : ∀ s, s < n → Fits d.slots d.depth.toNat s (kf s)
  m_eq : ∀ s, s < n → mf s = 2 ^ (d.depth.toNat - kf s)
  e : ∀ s, s < n → bucketE d (s : Int) = 0
  l : ∀ s, s < n → bucketL d (s : Int) = slotsR (pf s, pf s + mf s) (mf s)
  le : ∀ s, s < n → pf s + mf s ≤ n
  at_ : ∀ s i, s < n → pf s ≤ i → i < pf s + mf s → at_ d.slots i = at_ d.slots s
  sym : ∀ s i, s < n → i < n → ((pf s ≤ i ∧ i < pf s + mf s) ↔ (pf i ≤ s ∧ s < pf i + mf i))
theorem bks_of {d : Dir} {n : Nat} (hR : RightD d d.depth.toNat) (hl : n = 2 ^ d.depth.toNat) : ∃ kf pf mf, Bks d n kf pf mf := by
  have key : ∀ s, ∃ k, s < n → k ≤ d.depth.toNat ∧ Fits d.slots d.depth.toNat s k := fun s => by
    by_cases h : s < n
    · obtain ⟨k, h1, h2⟩ := hR.fit s (by omega)
      exact ⟨k, fun _ => ⟨h1, h2⟩⟩
    · exact ⟨0, fun g => absurd g h⟩
  have hin : ∀ s i, s < n → i < n → ((s / 2 ^ (d.depth.toNat - (key s).choose) * 2 ^ (d.depth.toNat - (key s).choose) ≤ i ∧ i < s / 2 ^ (d.depth.toNat - (key s).choose) * 2 ^ (d.depth.toNat - (key s).choose) + 2 ^ (d.depth.toNat - (key s).choose)) ↔ at_ d.slots i = at_ d.slots s) := fun s i hs hi => by
    rw [in_block (pow_pos2 _)]
    exact (((key s).choose_spec hs).2 i (by omega)).symm
  have hb := fun s (hs : s < n) => bucket_fit hR (s := s) (by omega) ((key s).choose_spec hs).1 ((key s).choose_spec hs).2
  have hle : ∀ s, s < n → s / 2 ^ (d.depth.toNat - (key s).choose) * 2 ^ (d.depth.toNat - (key s).choose) + 2 ^ (d.depth.toNat - (key s).choose) ≤ n := fun s hs => Nat.le_trans (alike_le (by omega) ((key s).choose_spec hs).1) (Nat.le_of_eq hl.symm)
  refine ⟨fun s => (key s).choose, fun s => s / 2 ^ (d.depth.toNat - (key s).choose) * 2 ^ (d.depth.toNat - (key s).choose), fun s => 2 ^ (d.depth.toNat - (key s).choose),
    fun s hs => ((key s).choose_spec hs).1, fun s hs => ((key s).choose_spec hs).2, fun s hs => rfl, fun s hs => (hb s hs).1, fun s hs => ?_, hle, fun s i hs h1 h2 => (hin s i hs (by have := hle s hs; omega)).1 ⟨h1, h2⟩, fun s i hs hi => ?_⟩
  · show slotsR (bucketR d (s : Int)) ((bucketR d (s : Int)).2 - (bucketR d (s : Int)).1) = _
    rw [(hb s hs).2.2]
    dsimp only
    rw [Nat.add_sub_cancel_left]
  · rw [hin s i hs hi, hin i s hi hs]
    exact eq_comm

theorem slot_div {D k : Nat} (x : UInt64) (h8 : D ≤ 8) (hk : k ≤ D) : slotOf D x / 2 ^ (D - k) = x.toNat / 2 ^ (64 - k) := by
  unfold slotOf
  rw [Nat.div_div_eq_div_mul, ← Nat.pow_add, show 64 - D + (D - k) = 64 - k by omega]
theorem alike_iff {d : Dir} {D k : Nat} (x y : UInt64) (hR : RightD d D) (hk : k ≤ D) (ha : slotOf D x < 2 ^ D) (hb : slotOf D y < 2 ^ D) (hf : Fits d.slots D (slotOf D x) k) : (at_ d.slots (slotOf D x) = at_ d.slots (slotOf D y)) ↔ x.toNat / 2 ^ (64 - k) = y.toNat / 2 ^ (64 - k) := by
  rw [eq_comm, hf _ hb, slot_div x hR.le hk, slot_div y hR.le hk]
  exact eq_comm

end Go.Proofs.Ytlkmcjjdjbdihaa
