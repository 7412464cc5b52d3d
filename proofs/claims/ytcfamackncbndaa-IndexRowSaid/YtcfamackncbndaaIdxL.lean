/-
  IndexPlaces: the walk.
-/
import Derived.Test.YtcfamackncbndaaIdxJ
namespace Go.Proofs.Ytcfamackncbndaa
open Go.RowKit
set_option linter.unusedVariables false

def atP (k : Nat) : Int := if k = 0 then -1 else (((k - 1) % 61 : Nat) : Int)
def onP (k : Nat) : Int := if k = 0 then 0 else (((k - 1) / 61 : Nat) : Int)
theorem atP_bounds (k : Nat) : -1 ≤ atP k ∧ atP k ≤ 60 := by
  unfold atP
  split <;> omega
theorem onP_bounds (k : Nat) (h : k ≤ 5001) : 0 ≤ onP k ∧ onP k ≤ 100 := by
  unfold onP
  split <;> omega
theorem next_at (k : Nat) : atP (k + 1) = placeI (k : Int) := by
  unfold atP placeI
  rw [if_neg (by omega), if_neg (by omega)]
  omega
theorem next_on (k : Nat) : onP (k + 1) = placeP (k : Int) := by
  unfold onP placeP
  rw [if_neg (by omega), if_neg (by omega)]
  omega
theorem placeP_nat (k : Nat) : placeP (k : Int) = (k : Int) / 61 := by
  unfold placeP
  rw [if_neg (by omega)]
theorem placeI_nat (k : Nat) : placeI (k : Int) = (k : Int) % 61 := by
  unfold placeI
  rw [if_neg (by omega)]
theorem next_ways (k : Nat) : (placeP (k : Int) = onP k ∧ placeI (k : Int) = atP k + 1 ∧ atP k + 1 < 61) ∨ (placeP (k : Int) = onP k + 1 ∧ placeI (k : Int) = 0 ∧ atP k = 60) := by
  rw [placeP_nat, placeI_nat]
  by_cases h : k = 0
  · subst h
    exact .inl (by decide)
  · unfold onP atP
    rw [if_neg h, if_neg h]
    by_cases h2 : k % 61 = 0
    · right
      omega
    · left
      omega
theorem last_ways (k : Nat) : (k = 0 ∧ pagesOf (k : Int) = 0) ∨ (0 < k ∧ pagesOf (k : Int) = onP k + 1) := by
  unfold pagesOf onP
  by_cases h : k = 0
  · left
    subst h
    exact ⟨rfl, by decide⟩
  · right
    rw [if_neg (by omega), if_neg h]
    omega
theorem more_ways (k : Nat) : (k % 61 = 0 ∧ pagesOf ((k : Int) + 1) = pagesOf (k : Int) + 1) ∨ (k % 61 ≠ 0 ∧ pagesOf ((k : Int) + 1) = pagesOf (k : Int)) := by
  unfold pagesOf
  rw [if_neg (by omega)]
  by_cases h : k = 0
  · left
    subst h
    exact ⟨rfl, by decide⟩
  · rw [if_neg (by omega)]
    by_cases h2 : k % 61 = 0
    · left
      omega
    · right
      omega
theorem pagesOf_bounds (k : Nat) (h : k ≤ 5001) : 0 ≤ pagesOf (k : Int) ∧ pagesOf (k : Int) ≤ 100 := by
  unfold pagesOf
  split <;> omega

set_option maxHeartbeats 2000000 in
set_option maxRecDepth 100000 in
theorem places_any (N : Nat) (w : World) (hN : N < 65536) :
    Calls Try.prog 6 #[.int .u16 (N : Int)] w fun e w' => e = .returned (.bool true) ∧ Below w.heap.size w w' := by
  go_enter Try.func6, Try.ntmps6
  go_wp2_with fail
  obtain ⟨M, hM, hM5⟩ : ∃ M : Nat, (N : Int) % 5001 = (M : Int) ∧ M ≤ 5000 := ⟨N % 5001, by omega, by omega⟩
  rw [hM]
  clear hM hN
  refine (pages_any (M : Int) _ (by omega) (by omega)).mono ?_
  rintro e w' ⟨rfl, rfl⟩
  have hQ := pagesOf_bounds M (by omega)
  obtain ⟨Q, hQe⟩ : ∃ Q, pagesOf (M : Int) = Q := ⟨_, rfl⟩
  rw [hQe] at hQ ⊢
  obtain ⟨hQ1, hQ2⟩ := hQ
  have HQ := Lib.hid hQe; clear hQe
  go_wp2_with fail
  go_loop [5, 6, 16] (fun a o i => ∃ k : Nat, k ≤ M ∧ a = .int .i64 (atP k) ∧ o = .int .i64 (onP k) ∧ i = .int .i64 (k : Int)) (fun _ _ i => M - (intOf i).toNat)
  case atStart => exact ⟨0, Nat.zero_le _, rfl, rfl, rfl⟩
  case round =>
    obtain ⟨k, hk, rfl, rfl, rfl⟩ := hrel
    by_cases hlt : k < M
    · have hki : (k : Int) < (M : Int) := by omega
      go_wp2_with fail
      refine (place_any (k : Int) _ (by omega) (by omega)).mono ?_
      rintro e w' ⟨rfl, rfl⟩
      have NA := Lib.hid (next_at k)
      have NO := Lib.hid (next_on k)
      have h1 := atP_bounds k
      have h2 := onP_bounds k (by omega)
      rcases next_ways k with ⟨e1, e2, e3⟩ | ⟨e1, e2, e3⟩
      · rw [e1] at NO
        rw [e2] at NA
        rw [e1, e2]
        clear e1 e2
        generalize atP k = a at *
        generalize onP k = o at *
        obtain ⟨h11, h12⟩ := h1
        obtain ⟨h21, h22⟩ := h2
        go_wp2_with fail
        go_round
        case rel => exact ⟨k + 1, by omega, vint NA.out.symm, vint NO.out.symm, by go_num⟩
        case measure => simp [intOf]; omega
      · rw [e1] at NO
        rw [e2] at NA
        rw [e1, e2, e3]
        clear e1 e2 e3 h1
        generalize onP k = o at *
        obtain ⟨h21, h22⟩ := h2
        have hq : (o + 1 == o) = false := by simp; omega
        go_wp2_with fail
        go_round
        case rel => exact ⟨k + 1, by omega, vint NA.out.symm, vint NO.out.symm, by go_num⟩
        case measure => simp [intOf]; omega
    · obtain rfl : k = M := by omega
      have h2 := onP_bounds k (by omega)
      obtain ⟨h21, h22⟩ := h2
      rcases last_ways k with ⟨h0, hq⟩ | ⟨h0, hq⟩
      · rw [HQ.out] at hq
        subst hq
        subst h0
        rw [show onP 0 = 0 from rfl]
        go_wp2_with fail
        refine (pages_any 1 _ (by omega) (by omega)).mono ?_
        rintro e w' ⟨rfl, rfl⟩
        rw [show pagesOf 1 = 1 from by decide]
        go_wp2_with fail
        refine (pages_any 1 _ (by omega) (by omega)).mono ?_
        rintro e w' ⟨rfl, rfl⟩
        rw [show pagesOf 1 = 1 from by decide]
        go_wp2_with fail
        refine (awake_any _).mono ?_
        rintro e w' ⟨rfl, hb⟩
        have HB := Lib.hid hb; clear hb
        go_wp2_with fail
        go_ret
        exact ⟨rfl, HB.out⟩
      · rw [HQ.out] at hq
        have h0i : (0 : Int) < (k : Int) := by omega
        have h0e : ((k : Int) == 0) = false := by simp; omega
        rcases more_ways k with ⟨hz, hm⟩ | ⟨hz, hm⟩
        · have hzi : ((k : Int) % 61 == 0) = true := by simp; omega
          rw [HQ.out] at hm
          have HM := Lib.hid hm; clear hm hz
          generalize onP k = o at *
          subst hq
          have t2 : decide (o + 1 < o + 1 + 1) = true := by simp; omega
          go_wp2_with fail
          refine (pages_any ((k : Int) + 1) _ (by omega) (by omega)).mono ?_
          rintro e w' ⟨rfl, rfl⟩
          rw [HM.out]
          go_wp2_with fail
          refine (pages_any ((k : Int) + 1) _ (by omega) (by omega)).mono ?_
          rintro e w' ⟨rfl, rfl⟩
          rw [HM.out]
          go_wp2_with fail
          refine (awake_any _).mono ?_
          rintro e w' ⟨rfl, hb⟩
          have HB := Lib.hid hb; clear hb
          go_wp2_with fail
          go_ret
          exact ⟨rfl, HB.out⟩
        · have hzi : ((k : Int) % 61 == 0) = false := by simp; omega
          rw [HQ.out] at hm
          have HM := Lib.hid hm; clear hm hz
          generalize onP k = o at *
          subst hq
          go_wp2_with fail
          refine (pages_any ((k : Int) + 1) _ (by omega) (by omega)).mono ?_
          rintro e w' ⟨rfl, rfl⟩
          rw [HM.out]
          go_wp2_with fail
          refine (pages_any ((k : Int) + 1) _ (by omega) (by omega)).mono ?_
          rintro e w' ⟨rfl, rfl⟩
          rw [HM.out]
          go_wp2_with fail
          refine (awake_any _).mono ?_
          rintro e w' ⟨rfl, hb⟩
          have HB := Lib.hid hb; clear hb
          go_wp2_with fail
          go_ret
          exact ⟨rfl, HB.out⟩

theorem u16_bounds {n : Int} (h : (Lit.int .u16 n).wf = true) : 0 ≤ n ∧ n < 65536 := by
  simp [Lit.wf, IntKind.min, IntKind.max, IntKind.signed, IntKind.bits] at h
  omega

theorem lawPlaces (n : Int) (w : World) (h : (Lit.int .u16 n).wf = true) :
    Calls Try.prog 6 #[.int .u16 n] w fun e w' => e = .returned (.bool true) ∧ Below w.heap.size w w' := by
  have hb := u16_bounds h
  obtain ⟨N, rfl⟩ : ∃ N : Nat, n = (N : Int) := ⟨n.toNat, by omega⟩
  exact places_any N w (by omega)

end Go.Proofs.Ytcfamackncbndaa
