/-
  Directories: which are right; runs of slots; buckets. No Go in sight.
-/
import Derived.WalkKit
namespace Go.Proofs.Ytlkmcjjdjbdihaa
set_option linter.unusedVariables false

structure Dir where
  depth : UInt8
  slots : List UInt16

/-- A slot's block. -/
abbrev at_ (l : List UInt16) (i : Nat) : UInt16 := l.getD i 0
def okb (b : UInt16) : Bool := decide (0 < b.toNat ∧ b.toNat < 4096)

/-- Where a run ends that reaches k by now. -/
def endFrom (l : List UInt16) (i k : Nat) : Nat := if h : k < l.length ∧ at_ l k = at_ l i then endFrom l i (k + 1) else k
termination_by l.length - k
decreasing_by omega
theorem endFrom_yes {l : List UInt16} {i k : Nat} (h : k < l.length) (e : at_ l k = at_ l i) : endFrom l i k = endFrom l i (k + 1) := by rw [endFrom, dif_pos ⟨h, e⟩]
theorem endFrom_no {l : List UInt16} {i k : Nat} (h : ¬ (k < l.length ∧ at_ l k = at_ l i)) : endFrom l i k = k := by rw [endFrom, dif_neg h]
theorem endFrom_ge (l : List UInt16) (i k : Nat) : k ≤ endFrom l i k := by
  induction k using endFrom.induct l i with
  | case1 k h ih => rw [endFrom_yes h.1 h.2]; omega
  | case2 k h => rw [endFrom_no h]; exact Nat.le_refl _
theorem endFrom_le (l : List UInt16) (i k : Nat) (hk : k ≤ l.length) : endFrom l i k ≤ l.length := by
  induction k using endFrom.induct l i with
  | case1 k h ih => rw [endFrom_yes h.1 h.2]; exact ih (by omega)
  | case2 k h => rw [endFrom_no h]; exact hk
theorem endFrom_same (l : List UInt16) (i k j : Nat) (h1 : k ≤ j) (h2 : j < endFrom l i k) : at_ l j = at_ l i := by
  induction k using endFrom.induct l i with
  | case1 k h ih =>
    rw [endFrom_yes h.1 h.2] at h2
    by_cases e : k = j
    · subst e; exact h.2
    · exact ih (by omega) h2
  | case2 k h => rw [endFrom_no h] at h2; omega
theorem endFrom_stop (l : List UInt16) (i k : Nat) (hs : endFrom l i k < l.length) : at_ l (endFrom l i k) ≠ at_ l i := by
  induction k using endFrom.induct l i with
  | case1 k h ih => rw [endFrom_yes h.1 h.2] at hs ⊢; exact ih hs
  | case2 k h =>
    rw [endFrom_no h] at hs ⊢
    intro e
    exact h ⟨hs, e⟩

abbrev Run := Nat × Nat
/-- The runs from a slot on. -/
def runsFrom (l : List UInt16) (i : Nat) : List Run := if h : i < l.length then (i, endFrom l i (i + 1)) :: runsFrom l (endFrom l i (i + 1)) else []
termination_by l.length - i
decreasing_by have := endFrom_ge l i (i + 1); omega
theorem runsFrom_yes {l : List UInt16} {i : Nat} (h : i < l.length) : runsFrom l i = (i, endFrom l i (i + 1)) :: runsFrom l (endFrom l i (i + 1)) := by rw [runsFrom, dif_pos h]
theorem runsFrom_no {l : List UInt16} {i : Nat} (h : ¬ i < l.length) : runsFrom l i = [] := by rw [runsFrom, dif_neg h]

/-- What each run is. -/
theorem runs_each (l : List UInt16) (i : Nat) : ∀ r ∈ runsFrom l i, i ≤ r.1 ∧ r.1 < r.2 ∧ r.2 ≤ l.length ∧ (∀ j, r.1 ≤ j → j < r.2 → at_ l j = at_ l r.1) ∧ (r.2 < l.length → at_ l r.2 ≠ at_ l r.1) ∧ (r.1 = i ∨ at_ l (r.1 - 1) ≠ at_ l r.1) := by
  induction i using runsFrom.induct l with
  | case1 i h ih =>
    rw [runsFrom_yes h]
    intro r hr
    have hge := endFrom_ge l i (i + 1)
    have hle := endFrom_le l i (i + 1) (by omega)
    rcases List.mem_cons.1 hr with rfl | hr
    · refine ⟨Nat.le_refl _, by dsimp only; omega, hle, ?_, endFrom_stop l i (i + 1), .inl rfl⟩
      intro j h1 h2
      by_cases e : j = i
      · rw [e]
      · exact endFrom_same l i (i + 1) j (by dsimp only at h1; omega) h2
    · obtain ⟨h1, h2, h3, h4, h5, h6⟩ := ih r hr
      refine ⟨by omega, h2, h3, h4, h5, .inr ?_⟩
      rcases h6 with h6 | h6
      · have hs := endFrom_stop l i (i + 1) (by omega)
        rw [h6]
        have : at_ l (endFrom l i (i + 1) - 1) = at_ l i := by
          by_cases e : endFrom l i (i + 1) - 1 = i
          · rw [e]
          · exact endFrom_same l i (i + 1) _ (by omega) (by omega)
        rw [this]
        exact hs.symm
      · exact h6
  | case2 i h => rw [runsFrom_no h]; intro r hr; cases hr

theorem runs_cover (l : List UInt16) (i s : Nat) (h1 : i ≤ s) (h2 : s < l.length) : ∃ r ∈ runsFrom l i, r.1 ≤ s ∧ s < r.2 := by
  induction i using runsFrom.induct l with
  | case1 i h ih =>
    rw [runsFrom_yes h]
    by_cases hs : s < endFrom l i (i + 1)
    · exact ⟨_, .head _, h1, hs⟩
    · obtain ⟨r, hr, h3⟩ := ih (by omega)
      exact ⟨r, .tail _ hr, h3⟩
  | case2 i h => omega

theorem runs_order (l : List UInt16) (i : Nat) : (runsFrom l i).Pairwise (fun r q => r.2 ≤ q.1) := by
  induction i using runsFrom.induct l with
  | case1 i h ih =>
    rw [runsFrom_yes h]
    refine List.Pairwise.cons (fun q hq => ?_) ih
    exact (runs_each l _ q hq).1
  | case2 i h => rw [runsFrom_no h]; exact List.Pairwise.nil

/-- Is a run all slots that are alike in some bits? -/
def wholeB (r : Run) : Bool := (((r.2 - r.1) &&& (r.2 - r.1 - 1)) == 0) && (r.1 % (r.2 - r.1) == 0)
theorem pow2_iff : ∀ n, n ≤ 256 → 0 < n → ((n &&& (n - 1)) = 0 ↔ ∃ j, j ≤ 8 ∧ n = 2 ^ j) := by decide +kernel

def goodAt (l : List UInt16) (rs : List Run) (j : Nat) : Bool :=
  !(rs.take j).any (fun r => at_ l r.1 == at_ l (rs.getD j (0, 0)).1) && (okb (at_ l (rs.getD j (0, 0)).1) && wholeB (rs.getD j (0, 0)))
def goodUpto (l : List UInt16) (rs : List Run) (j : Nat) : Bool := (List.range j).all (goodAt l rs)
theorem goodUpto_zero (l : List UInt16) (rs : List Run) : goodUpto l rs 0 = true := rfl
theorem goodUpto_succ (l : List UInt16) (rs : List Run) (j : Nat) : goodUpto l rs (j + 1) = (goodUpto l rs j && goodAt l rs j) := by simp [goodUpto, List.range_succ, List.all_append]
theorem goodUpto_iff {l : List UInt16} {rs : List Run} {k : Nat} : goodUpto l rs k = true ↔ ∀ j, j < k → goodAt l rs j = true := by simp [goodUpto]
theorem goodUpto_no {l : List UInt16} {rs : List Run} {k j : Nat} (hj : j < k) (h : goodAt l rs j = false) : goodUpto l rs k = false := by
  cases hu : goodUpto l rs k
  · rfl
  · rw [goodUpto_iff.1 hu j hj] at h; cases h

/-- Is it a directory? By its runs. -/
def rightB (d : Dir) : Bool := decide (d.depth.toNat ≤ 8) && (decide (d.slots.length = 2 ^ d.depth.toNat) && goodUpto d.slots (runsFrom d.slots 0) (runsFrom d.slots 0).length)

/-- The slots that are alike with s in k bits are those that name its block. -/
def Fits (l : List UInt16) (D s k : Nat) : Prop := ∀ i, i < 2 ^ D → (at_ l i = at_ l s ↔ i / 2 ^ (D - k) = s / 2 ^ (D - k))
structure RightD (d : Dir) (D : Nat) : Prop where
  dep : d.depth.toNat = D
  le : D ≤ 8
  len : d.slots.length = 2 ^ D
  ok : ∀ s, s < 2 ^ D → okb (at_ d.slots s) = true
  fit : ∀ s, s < 2 ^ D → ∃ k, k ≤ D ∧ Fits d.slots D s k

theorem div_in {m t : Nat} (a : Nat) (h : t < m) : (m * a + t) / m = a := by
  rw [Nat.mul_add_div (by omega), Nat.div_eq_of_lt h]
  rfl
theorem pow8 {D : Nat} (h : D ≤ 8) : 2 ^ D ≤ 256 := by
  have := Nat.pow_le_pow_right (show 0 < 2 by omega) h
  omega
theorem pow_pos2 (k : Nat) : 0 < 2 ^ k := Nat.pow_pos (by omega)
theorem pow_split {D k : Nat} (h : k ≤ D) : 2 ^ D = 2 ^ k * 2 ^ (D - k) := by rw [← Nat.pow_add]; congr 1; omega

/-- A run of a directory whose slots fit is a bucket. -/
theorem run_of_fit {l : List UInt16} {D k : Nat} (hl : l.length = 2 ^ D) (hk : k ≤ D) {r : Run} (hr : r ∈ runsFrom l 0) (hf : Fits l D r.1 k) : r.1 = r.1 / 2 ^ (D - k) * 2 ^ (D - k) ∧ r.2 = r.1 + 2 ^ (D - k) := by
  obtain ⟨_, h2, h3, h4, h5, h6⟩ := runs_each l 0 r hr
  have hm := pow_pos2 (D - k)
  have hs := pow_split hk
  obtain ⟨m, hmm⟩ : ∃ m, m = 2 ^ (D - k) := ⟨_, rfl⟩
  obtain ⟨q, hq⟩ : ∃ q, q = r.1 / m := ⟨_, rfl⟩
  have hdm := Nat.div_add_mod r.1 m
  rw [← hmm] at hm hs ⊢
  have hmod := Nat.mod_lt r.1 hm
  have h1 : r.1 % m = 0 := by
    rcases h6 with h6 | h6
    · rw [h6]; exact Nat.zero_mod m
    · false_or_by_contra
      rename_i h0
      apply h6
      refine (hf (r.1 - 1) (by omega)).2 ?_
      rw [← hmm]
      have e : r.1 - 1 = m * (r.1 / m) + (r.1 % m - 1) := by omega
      rw [e, div_in _ (by omega)]
  have e1 : r.1 = r.1 / m * m := by rw [Nat.mul_comm]; omega
  refine ⟨e1, ?_⟩
  have hqk : r.1 / m < 2 ^ k := Nat.div_lt_of_lt_mul (by rw [Nat.mul_comm, ← hs]; omega)
  have hup : r.1 + m ≤ 2 ^ D := by
    rw [hs]
    have : (r.1 / m + 1) * m ≤ 2 ^ k * m := Nat.mul_le_mul_right m hqk
    rw [Nat.add_mul, Nat.one_mul] at this
    omega
  have hdiv : ∀ t, t < m → (r.1 + t) / m = r.1 / m := fun t ht => by
    have e : r.1 + t = m * (r.1 / m) + t := by omega
    rw [e, div_in _ ht]
  rcases Nat.lt_trichotomy r.2 (r.1 + m) with hlt | heq | hgt
  · exfalso
    refine h5 (by omega) ((hf r.2 (by omega)).2 ?_)
    rw [← hmm]
    have := hdiv (r.2 - r.1) (by omega)
    rwa [show r.1 + (r.2 - r.1) = r.2 by omega] at this
  · exact heq
  · exfalso
    have h7 := h4 (r.1 + m) (by omega) hgt
    have h8 := (hf (r.1 + m) (by omega)).1 h7
    rw [← hmm, Nat.add_div_right _ hm] at h8
    omega

theorem pairwise_ne {α : Type} {R : α → α → Prop} {l : List α} (h : l.Pairwise R) {a b : α} (ha : a ∈ l) (hb : b ∈ l) (hne : a ≠ b) : R a b ∨ R b a := by
  induction h with
  | nil => cases ha
  | cons hx _ ih =>
    rcases List.mem_cons.1 ha with rfl | ha'
    · rcases List.mem_cons.1 hb with rfl | hb'
      · exact absurd rfl hne
      · exact .inl (hx _ hb')
    · rcases List.mem_cons.1 hb with rfl | hb'
      · exact .inr (hx _ ha')
      · exact ih ha' hb'

theorem goodAt_iff {l : List UInt16} {rs : List Run} {j : Nat} : goodAt l rs j = true ↔ (∀ r ∈ rs.take j, at_ l r.1 ≠ at_ l (rs.getD j (0, 0)).1) ∧ okb (at_ l (rs.getD j (0, 0)).1) = true ∧ wholeB (rs.getD j (0, 0)) = true := by
  unfold goodAt
  simp only [Bool.and_eq_true, Bool.not_eq_true', List.any_eq_false, beq_iff_eq]

theorem good_all {l : List UInt16} {rs : List Run} : goodUpto l rs rs.length = true ↔ (∀ i j (hi : i < j) (hj : j < rs.length), at_ l (rs[i]'(by omega)).1 ≠ at_ l (rs[j]).1) ∧ ∀ r ∈ rs, okb (at_ l r.1) = true ∧ wholeB r = true := by
  rw [goodUpto_iff]
  constructor
  · intro h
    refine ⟨fun i j hi hj => ?_, fun r hr => ?_⟩
    · have h1 := (goodAt_iff.1 (h j hj)).1 (rs[i]'(by omega)) (List.mem_iff_getElem.2 ⟨i, by simp; omega, by simp⟩)
      rwa [List.getD_eq_getElem?_getD, List.getElem?_eq_getElem hj] at h1
    · obtain ⟨j, hj, rfl⟩ := List.mem_iff_getElem.1 hr
      have h1 := (goodAt_iff.1 (h j hj)).2
      rwa [List.getD_eq_getElem?_getD, List.getElem?_eq_getElem hj] at h1
  · rintro ⟨h1, h2⟩ j hj
    refine goodAt_iff.2 ?_
    rw [List.getD_eq_getElem?_getD, List.getElem?_eq_getElem hj]
    refine ⟨fun r hr => ?_, h2 _ (List.getElem_mem hj)⟩
    obtain ⟨i, hi, rfl⟩ := List.mem_iff_getElem.1 hr
    have hi' : i < j := by simp at hi; omega
    rw [List.getElem_take]
    exact h1 i j hi' hj

theorem rightB_iff {d : Dir} : rightB d = true ↔ RightD d d.depth.toNat := by
  unfold rightB
  simp only [Bool.and_eq_true, decide_eq_true_eq]
  obtain ⟨D, hD⟩ : ∃ D, D = d.depth.toNat := ⟨_, rfl⟩
  rw [← hD]
  rw [good_all]
  constructor
  · rintro ⟨h8, hl, hne, hall⟩
    have key : ∀ s, s < 2 ^ D → ∃ r ∈ runsFrom d.slots 0, r.1 ≤ s ∧ s < r.2 := fun s hs => runs_cover d.slots 0 s (Nat.zero_le _) (by omega)
    refine ⟨hD.symm, h8, hl, fun s hs => ?_, fun s hs => ?_⟩
    · obtain ⟨r, hr, h1, h2⟩ := key s hs
      rw [(runs_each d.slots 0 r hr).2.2.2.1 s h1 h2]
      exact (hall r hr).1
    · obtain ⟨r, hr, h1, h2⟩ := key s hs
      obtain ⟨_, e2, e3, e4, _, _⟩ := runs_each d.slots 0 r hr
      have hw := (hall r hr).2
      unfold wholeB at hw
      simp only [Bool.and_eq_true, beq_iff_eq] at hw
      have hp8 := pow8 h8
      obtain ⟨j, hj, hjm⟩ := (pow2_iff (r.2 - r.1) (by omega) (by omega)).1 hw.1
      have hjD : j ≤ D := by
        have : 2 ^ j ≤ 2 ^ D := by omega
        exact (Nat.pow_le_pow_iff_right (by omega)).1 this
      refine ⟨D - j, by omega, fun i hi => ?_⟩
      rw [show D - (D - j) = j by omega]
      have hm := pow_pos2 j
      have hmod := hw.2
      rw [hjm] at hmod
      have hdm := Nat.div_add_mod r.1 (2 ^ j)
      have hin : ∀ t, r.1 ≤ t → t < r.2 → t / 2 ^ j = r.1 / 2 ^ j := fun t h3 h4 => by
        have e : t = 2 ^ j * (r.1 / 2 ^ j) + (t - r.1) := by omega
        rw [e, div_in _ (by omega)]
      rw [hin s h1 h2]
      constructor
      · intro h
        obtain ⟨q, hq, h3, h4⟩ := key i hi
        have h5 := (runs_each d.slots 0 q hq).2.2.2.1 i h3 h4
        have h6 := e4 s h1 h2
        have hqr : at_ d.slots q.1 = at_ d.slots r.1 := by rw [← h5, ← h6, h]
        obtain ⟨a, ha, rfl⟩ := List.mem_iff_getElem.1 hq
        obtain ⟨b, hb, rfl⟩ := List.mem_iff_getElem.1 hr
        rcases Nat.lt_trichotomy a b with hab | hab | hab
        · exact absurd hqr (hne a b hab hb)
        · subst hab
          exact hin i h3 h4
        · exact absurd hqr.symm (hne b a hab ha)
      · intro h
        have hlo : 2 ^ j * (i / 2 ^ j) ≤ i := Nat.mul_div_le i _
        have hhi : i < 2 ^ j * (i / 2 ^ j) + 2 ^ j := by have := Nat.div_add_mod i (2 ^ j); have := Nat.mod_lt i hm; omega
        rw [h] at hlo hhi
        rw [e4 i (by omega) (by omega), e4 s h1 h2]
  · rintro ⟨_, h8, hl, hok, hfit⟩
    have lt : ∀ r ∈ runsFrom d.slots 0, r.1 < 2 ^ D := fun r hr => by
      have := runs_each d.slots 0 r hr
      omega
    refine ⟨h8, hl, fun i j hi hj he => ?_, fun r hr => ?_⟩
    · obtain ⟨a, ha⟩ : ∃ a, a = (runsFrom d.slots 0)[i]'(by omega) := ⟨_, rfl⟩
      obtain ⟨b, hb⟩ : ∃ b, b = (runsFrom d.slots 0)[j] := ⟨_, rfl⟩
      have ma : a ∈ runsFrom d.slots 0 := ha ▸ List.getElem_mem _
      have mb : b ∈ runsFrom d.slots 0 := hb ▸ List.getElem_mem _
      rw [← ha, ← hb] at he
      have hord : a.2 ≤ b.1 := by rw [ha, hb]; exact List.pairwise_iff_getElem.1 (runs_order d.slots 0) i j (by omega) hj hi
      obtain ⟨k, hk, hf⟩ := hfit a.1 (lt a ma)
      obtain ⟨f1, f2⟩ := run_of_fit hl hk ma hf
      have h1 := (hf b.1 (lt b mb)).1 he.symm
      have hm := pow_pos2 (D - k)
      have h2 : b.1 < 2 ^ (D - k) * (b.1 / 2 ^ (D - k)) + 2 ^ (D - k) := by have := Nat.div_add_mod b.1 (2 ^ (D - k)); have := Nat.mod_lt b.1 hm; omega
      rw [h1, Nat.mul_comm] at h2
      omega
    · obtain ⟨k, hk, hf⟩ := hfit r.1 (lt r hr)
      obtain ⟨f1, f2⟩ := run_of_fit hl hk hr hf
      refine ⟨hok r.1 (lt r hr), ?_⟩
      unfold wholeB
      rw [show r.2 - r.1 = 2 ^ (D - k) by rw [f2, Nat.add_sub_cancel_left]]
      simp only [Bool.and_eq_true, beq_iff_eq]
      have hm := pow_pos2 (D - k)
      refine ⟨(pow2_iff _ ?_ hm).2 ⟨D - k, by omega, rfl⟩, by rw [f1]; exact Nat.mul_mod_left _ _⟩
      have := pow8 (D := D - k) (by omega)
      omega

/-- A bucket's depth is one. -/
theorem fits_one {l : List UInt16} {D s k j : Nat} (hs : s < 2 ^ D) (hk : k ≤ D) (hj : j ≤ D) (h : Fits l D s k) (g : Fits l D s j) : k = j := by
  have key : ∀ k j, k ≤ D → j < k → Fits l D s k → Fits l D s j → False := by
    intro k j hk hjk h g
    have hm := pow_pos2 (D - k)
    have hn := pow_pos2 (D - j)
    have e : 2 ^ (D - j) = 2 ^ (k - j) * 2 ^ (D - k) := by rw [← Nat.pow_add]; congr 1; omega
    have e2 : 2 ≤ 2 ^ (k - j) := by
      have := Nat.pow_le_pow_right (show 0 < 2 by omega) (show 1 ≤ k - j by omega)
      omega
    have hle : 2 * 2 ^ (D - k) ≤ 2 ^ (D - j) := by rw [e]; exact Nat.mul_le_mul_right _ e2
    -- the first slots of both halves of s's bucket of depth j
    have hb := Nat.div_add_mod s (2 ^ (D - j))
    have hlt := Nat.mod_lt s hn
    have hup : 2 ^ (D - j) * (s / 2 ^ (D - j)) + 2 ^ (D - j) ≤ 2 ^ D := by
      have h1 : s / 2 ^ (D - j) < 2 ^ j := Nat.div_lt_of_lt_mul (by rw [Nat.mul_comm, ← pow_split (show j ≤ D by omega)]; exact hs)
      have h2 := Nat.mul_le_mul_left (2 ^ (D - j)) h1
      rw [Nat.mul_succ, Nat.mul_comm (2 ^ (D - j)) (2 ^ j), ← pow_split (show j ≤ D by omega)] at h2
      omega
    obtain ⟨q, hq⟩ : ∃ q, q = 2 ^ (D - j) * (s / 2 ^ (D - j)) := ⟨_, rfl⟩
    rw [← hq] at hb hup
    have hin : ∀ t, t < 2 ^ (D - j) → (q + t) / 2 ^ (D - j) = s / 2 ^ (D - j) := fun t ht => by
      rw [hq, div_in _ ht]
    have a1 := (h q (by omega)).1 ((g q (by omega)).2 (hin 0 (by omega)))
    have a2 := (h (q + 2 ^ (D - k)) (by omega)).1 ((g (q + 2 ^ (D - k)) (by omega)).2 (hin _ (by omega)))
    rw [Nat.add_div_right _ hm] at a2
    omega
  rcases Nat.lt_trichotomy k j with hl | he | hg
  · exact (key j k hj hl g h).elim
  · exact he
  · exact (key k j hk hg h g).elim

theorem Fits.same {l : List UInt16} {D s t k : Nat} (h : Fits l D s k) (ht : t < 2 ^ D) (e : at_ l t = at_ l s) : Fits l D t k := fun i hi => by
  rw [e, h i hi, (h t ht).1 e]

/-- The run of a slot. -/
def runOf (l : List UInt16) (s : Nat) : Run := ((runsFrom l 0).find? (fun r => decide (s < r.2))).getD (0, 0)
theorem runOf_spec {l : List UInt16} {D s k : Nat} (hl : l.length = 2 ^ D) (hs : s < 2 ^ D) (hk : k ≤ D) (hf : Fits l D s k) : runOf l s = (s / 2 ^ (D - k) * 2 ^ (D - k), s / 2 ^ (D - k) * 2 ^ (D - k) + 2 ^ (D - k)) := by
  obtain ⟨r, hr, h1, h2⟩ := runs_cover l 0 s (Nat.zero_le _) (by omega)
  have hfind : (runsFrom l 0).find? (fun r => decide (s < r.2)) = some r := by
    rw [List.find?_eq_some_iff_append]
    refine ⟨by simpa using h2, ?_⟩
    obtain ⟨a, b, hab⟩ := List.append_of_mem hr
    refine ⟨a, b, hab, fun q hq => ?_⟩
    have ho := runs_order l 0
    rw [hab] at ho
    have := (List.pairwise_append.1 ho).2.2 q hq r (by simp)
    simp
    omega
  unfold runOf
  rw [hfind]
  obtain ⟨_, e2, e3, e4, _, _⟩ := runs_each l 0 r hr
  have he := e4 s h1 h2
  have hr1 : r.1 < 2 ^ D := by omega
  have hf2 := hf.same hr1 he.symm
  obtain ⟨f1, f2⟩ := run_of_fit hl hk hr hf2
  have h3 := (hf r.1 hr1).1 he.symm
  rw [h3] at f1
  show r = _
  rw [← f1, ← f2]

end Go.Proofs.Ytlkmcjjdjbdihaa
