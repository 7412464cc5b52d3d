/-
  What a disk says behind writes of one byte each, flushed behind some, and behind a crash: the plain law.
-/
import Derived.Test.YtdnhlpddnbholaaDkS
namespace Go.Proofs.Ytdnhlpddnbholaa
set_option linter.unusedVariables false

theorem readB_snoc (D : Dk) (x : Nat × List UInt8) (a : Nat) : readB { D with waits := D.waits ++ [x] } a = if x.1 = a then x.2 else readB D a := by
  unfold readB
  show (match lastK (D.waits ++ [x]) a (D.waits ++ [x]).length with | some i => ((D.waits ++ [x]).getD i nW).2 | none => D.blks.getD a []) = _
  rw [lastK_snoc]
  by_cases e : x.1 = a
  · rw [if_pos (by omega), if_pos e]
    simp [List.getD]
  · rw [if_neg (by omega), if_neg e]
    cases h : lastK D.waits a D.waits.length with
    | none => rfl
    | some i =>
      have hi := (lastK_some h).1
      simp only
      rw [List.getD_eq_getElem?_getD, List.getElem?_append_left hi, ← List.getD_eq_getElem?_getD]
theorem flushK_read {D : Dk} (h : D.Ok) (a : Nat) : ∀ k, k ≤ D.waits.length → (flushK D k).getD a [] = match lastK D.waits a k with | some i => (D.waits.getD i nW).2 | none => D.blks.getD a []
  | 0, _ => rfl
  | k + 1, hk => by
    obtain ⟨h1, h2⟩ := h.waitAt k (by omega)
    have ih := flushK_read h a k (by omega)
    unfold flushK lastK
    rw [putB_get _ _ _ _ (by rw [flushK_length]; exact h1)]
    by_cases e : (D.waits.getD k nW).1 = a
    · rw [if_pos e, if_pos (by omega)]
      simp only
      have hl : ((flushK D k).getD a []).length = 128 := flushK_blk h k (by omega) a (by rw [← e]; exact h1)
      rw [List.take_of_length_le (by omega), List.drop_of_length_le (by omega), List.append_nil]
    · rw [if_neg e, if_neg (by omega)]
      exact ih
theorem flush_read {D : Dk} {k : Nat} (h : Live D k) (a : Nat) : readB (flushed D) a = readB D a := by
  rw [flushed_live h]
  exact flushK_read h.ok a _ (Nat.le_refl _)
theorem flush_blks {D : Dk} {k : Nat} (h : Live D k) (a : Nat) : (flushed D).blks.getD a [] = readB D a := by
  rw [flushed_live h]
  exact flushK_read h.ok a _ (Nat.le_refl _)
theorem crashK_all (keep : List Bool) (D : Dk) (hk : ∀ i, i < D.waits.length → keep.getD i false = true) : ∀ k, k ≤ D.waits.length → crashK keep (-1) 0 D k = flushK D k
  | 0, _ => rfl
  | k + 1, h => by
    unfold crashK flushK
    rw [if_neg (by omega), if_pos (hk k (by omega)), crashK_all keep D hk k (by omega)]
theorem crashK_none (t : Int) (D : Dk) (a : Nat) : ∀ k, (crashK [] t 0 D k).getD a [] = D.blks.getD a []
  | 0 => rfl
  | k + 1 => by
    have ih := crashK_none t D a k
    unfold crashK
    split
    · rw [← ih]
      unfold putB
      rw [List.take_zero, List.drop_zero, List.nil_append]
      by_cases e : (D.waits.getD k nW).1 < (crashK [] t 0 D k).length
      · rw [List.getD_eq_getElem?_getD, List.getElem?_set]
        split
        · rename_i e2
          rw [e2]
          simp [List.getD_eq_getElem?_getD]
        · rw [← List.getD_eq_getElem?_getD]
      · rw [List.set_eq_of_length_le (by omega)]
    · rw [if_neg (by simp)]
      exact ih
theorem crash_all {D : Dk} {k : Nat} (h : Live D k) (keep : List Bool) (hk : ∀ i, i < D.waits.length → keep.getD i false = true) (a : Nat) : readB (crashed D keep (-1) 0) a = readB D a := by
  unfold crashed
  rw [if_neg (by decide), show (0 : Int).toNat = 0 from rfl, crashK_all keep D hk _ (Nat.le_refl _)]
  exact flushK_read h.ok a _ (Nat.le_refl _)
theorem crash_none (D : Dk) (t : Int) (a : Nat) : readB (crashed D [] t 0) a = D.blks.getD a [] := by
  unfold crashed
  rw [if_neg (by decide)]
  exact crashK_none t D a _
theorem crashed_live {D : Dk} {k : Nat} (h : Live D k) (keep : List Bool) (t c : Int) (hc : 0 ≤ c ∧ c ≤ 128) : Live (crashed D keep t c) 0 := by
  have hok := crashed_ok h.ok keep t c
  have e : crashed D keep t c = ⟨crashK keep t c.toNat D D.waits.length, [], -1, false⟩ := by unfold crashed; rw [if_neg (by omega)]
  rw [e] at hok ⊢
  exact ⟨hok, (crashK_length _ _ _ _ _).trans h.n, rfl, rfl, Nat.le_refl _⟩

/-- The byte that was written last at a, of the first k writes. -/
def lastV (l : List (UInt8 × UInt8)) : Nat → Nat → UInt8
  | 0, _ => 0
  | k + 1, a => if (l.getD k (0, 0)).1.toNat % 16 = a then (l.getD k (0, 0)).2 else lastV l k a
def lastL (l : List (UInt8 × UInt8)) (k : Nat) : List UInt8 := (List.range 16).map (lastV l k)
theorem lastL_length (l : List (UInt8 × UInt8)) (k : Nat) : (lastL l k).length = 16 := by simp [lastL]
theorem lastL_zero (l : List (UInt8 × UInt8)) : lastL l 0 = List.replicate 16 0 := rfl
theorem lastV_succ (l : List (UInt8 × UInt8)) (k a : Nat) : lastV l (k + 1) a = if (l.getD k (0, 0)).1.toNat % 16 = a then (l.getD k (0, 0)).2 else lastV l k a := rfl
theorem lastL_at (l : List (UInt8 × UInt8)) (k a : Nat) (h : a < 16) : (lastL l k)[a]? = some (lastV l k a) := by
  unfold lastL
  rw [List.getElem?_map, List.getElem?_range h]
  rfl
theorem lastL_succ (l : List (UInt8 × UInt8)) (k : Nat) : (lastL l k).set ((l.getD k (0, 0)).1.toNat % 16) (l.getD k (0, 0)).2 = lastL l (k + 1) := by
  apply List.ext_getElem?
  intro i
  rw [List.getElem?_set]
  by_cases hi : i < 16
  · rw [lastL_at l (k + 1) i hi, lastL_at l k i hi, lastV_succ]
    by_cases e : (l.getD k (0, 0)).1.toNat % 16 = i
    · rw [if_pos e, if_pos (by rw [lastL_length]; omega), if_pos e]
    · rw [if_neg e, if_neg e]
  · rw [if_neg (by omega), List.getElem?_eq_none (by rw [lastL_length]; omega), List.getElem?_eq_none (by rw [lastL_length]; omega)]

section
variable (l : List (UInt8 × UInt8)) (f : Nat)
/-- How many are flushed among the first k. -/
def firmN (k : Nat) : Nat := if f ≤ k then f else 0
theorem after_read (a : Nat) (ha : a < 16) : ∀ k, k ≤ 1000 → readB (afterK l (f : Int) k) a = List.replicate 128 (lastV l k a)
  | 0, _ => by
    unfold readB afterK newD lastV
    simp only [List.length_nil]
    show (List.replicate 16 (List.replicate 128 (0 : UInt8))).getD a [] = _
    rw [List.getD_eq_getElem?_getD, List.getElem?_replicate, if_pos ha]
    rfl
  | k + 1, h => by
    have ih := after_read a ha k (by omega)
    have hL := afterK_live l (f : Int) k (by omega)
    have hlt : (l.getD k (0, 0)).1.toNat % 16 < 16 := Nat.mod_lt _ (by decide)
    have hW := hL.write (by omega) ((l.getD k (0, 0)).1.toNat % 16) hlt (List.replicate 128 (l.getD k (0, 0)).2) (by simp)
    have hr : readB (written (afterK l (f : Int) k) (((l.getD k (0, 0)).1.toNat % 16 : Nat) : Int) (List.replicate 128 (l.getD k (0, 0)).2)) a = List.replicate 128 (lastV l (k + 1) a) := by
      rw [written_live hL _ hlt _ (by simp), readB_snoc]
      unfold lastV
      split
      · rfl
      · exact ih
    unfold afterK
    split
    · rw [flush_read hW, hr]
    · exact hr
theorem after_blks (a : Nat) (ha : a < 16) : ∀ k, k ≤ 1000 → (afterK l (f : Int) k).blks.getD a [] = List.replicate 128 (lastV l (firmN f k) a) ∧ (afterK l (f : Int) k).waits.length = k - firmN f k
  | 0, _ => by
    have e : firmN f 0 = 0 := by unfold firmN; split <;> omega
    rw [e]
    refine ⟨?_, rfl⟩
    unfold afterK newD lastV
    show (List.replicate 16 (List.replicate 128 (0 : UInt8))).getD a [] = _
    rw [List.getD_eq_getElem?_getD, List.getElem?_replicate, if_pos ha]
    rfl
  | k + 1, h => by
    obtain ⟨ih1, ih2⟩ := after_blks a ha k (by omega)
    have hL := afterK_live l (f : Int) k (by omega)
    have hlt : (l.getD k (0, 0)).1.toNat % 16 < 16 := Nat.mod_lt _ (by decide)
    have hW := hL.write (by omega) ((l.getD k (0, 0)).1.toNat % 16) hlt (List.replicate 128 (l.getD k (0, 0)).2) (by simp)
    have hr := after_read l f a ha (k + 1) h
    unfold afterK at hr ⊢
    split
    · rename_i e
      rw [if_pos e, flush_read hW] at hr
      have ef : firmN f (k + 1) = k + 1 := by unfold firmN; rw [if_pos (by omega)]; omega
      rw [ef]
      refine ⟨by rw [flush_blks hW]; exact hr, ?_⟩
      rw [flushed_live hW]
      simp
    · rename_i e
      have ef : firmN f (k + 1) = firmN f k := by unfold firmN; split <;> split <;> omega
      have efk : firmN f k ≤ k := by unfold firmN; split <;> omega
      rw [ef]
      rw [written_live hL _ hlt _ (by simp)]
      exact ⟨ih1, by rw [List.length_append, ih2, List.length_singleton]; omega⟩
end

end Go.Proofs.Ytdnhlpddnbholaa
