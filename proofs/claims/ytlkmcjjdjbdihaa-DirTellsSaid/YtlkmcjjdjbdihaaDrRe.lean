/-
  The document's Buddy.
-/
import Derived.Test.YtlkmcjjdjbdihaaDrRd
import Derived.Test.YtlkmcjjdjbdihaaDrLBud
namespace Go.Proofs.Ytlkmcjjdjbdihaa
open Go.RowKit Go.Maps
set_option linter.unusedVariables false
set_option linter.unusedSimpArgs false
attribute [local go_sem ↓] Go.wp_at_zero Go.wp_at_succ

/-- The slots of the other half: from q on. -/
theorem buddy_first {s e i : Nat} (hi : i ≤ (s / 2 ^ e * 2 ^ e ^^^ 2 ^ e)) :
    (i / 2 ^ (e + 1) = s / 2 ^ (e + 1) ∧ i / 2 ^ e ≠ s / 2 ^ e) ↔ i = (s / 2 ^ e * 2 ^ e ^^^ 2 ^ e) := by
  have hm := pow_pos2 e
  have hae : s / 2 ^ e * 2 ^ e / 2 ^ e = s / 2 ^ e := Nat.mul_div_cancel _ hm
  obtain ⟨q, hq⟩ : ∃ q, q = (s / 2 ^ e * 2 ^ e ^^^ 2 ^ e) := ⟨_, rfl⟩
  have q1 : q / 2 ^ e ≠ s / 2 ^ e := by
    rw [hq]
    have := flip_at (s / 2 ^ e * 2 ^ e) e
    rwa [hae] at this
  have q2 : q / 2 ^ (e + 1) = s / 2 ^ (e + 1) := by
    rw [hq, flip_up _ e (e + 1) (by omega), Nat.pow_succ, ← Nat.div_div_eq_div_mul, ← Nat.div_div_eq_div_mul, hae]
  have q3 : q % 2 ^ e = 0 := by rw [hq]; exact bud_mod _ _
  rw [← hq] at hi ⊢
  constructor
  · rintro ⟨h1, h2⟩
    have h3 : i / 2 ^ e = q / 2 ^ e := by
      rw [Nat.pow_succ, ← Nat.div_div_eq_div_mul, ← Nat.div_div_eq_div_mul] at h1 q2
      omega
    have h4 := Nat.div_add_mod i (2 ^ e)
    have h5 := Nat.div_add_mod q (2 ^ e)
    rw [h3] at h4
    omega
  · intro h
    rw [h]
    exact ⟨q2, q1⟩

set_option maxHeartbeats 2000000 in
set_option maxRecDepth 100000 in
theorem rbuddy_ok (s k D : Nat) (w : World) (h1 : 1 ≤ k) (hk : k ≤ D) (hD : D ≤ 8) (hs : s < 2 ^ D) :
    Calls Try.prog 27 #[.int .i64 (s : Int), .int .i64 (k : Int), .int .i64 (D : Int)] w fun e w' => e = .returned (.tuple #[.int .i64 ((s / 2 ^ (D - k) * 2 ^ (D - k) ^^^ 2 ^ (D - k) : Nat) : Int), .int .i64 0]) ∧ Below w.heap.size w w' := by
  have hqlt := bud_lt hs h1 hk
  have HBF := Lib.hid (fun i hi => buddy_first (s := s) (e := D - k) (i := i) hi)
  have HE1 : Hid (D - (k - 1) = D - k + 1) := Lib.hid (by omega)
  obtain ⟨q, hq⟩ : ∃ q, q = (s / 2 ^ (D - k) * 2 ^ (D - k) ^^^ 2 ^ (D - k)) := ⟨_, rfl⟩
  rw [← hq] at hqlt HBF ⊢
  have hp8 := pow8 hD
  have hmn := fun w => many_any D w hD
  have HAL1 := Lib.hid (fun (i : Nat) (hi : i < 2 ^ D) (w : World) => ralike_any i s (k - 1) D w hi hs (by omega) hD)
  have HAL2 := Lib.hid (fun (i : Nat) (hi : i < 2 ^ D) (w : World) => ralike_any i s k D w hi hs hk hD)
  obtain ⟨k1, hk1⟩ : ∃ k1, k1 = k - 1 := ⟨_, rfl⟩
  rw [← hk1] at HAL1
  rw [← hk1] at HE1
  have ek : (k : Int) - 1 = (k1 : Int) := by omega
  obtain ⟨N, hN⟩ : ∃ N, N = 2 ^ D := ⟨_, rfl⟩
  rw [← hN] at hmn hqlt hp8 hs HAL1 HAL2
  have HMN := Lib.hid hmn
  have HQL := Lib.hid hqlt
  have t1 : ¬ (D : Int) < 0 := by omega
  have t2 : ¬ (8 : Int) < (D : Int) := by omega
  have t3 : ¬ (k : Int) < 1 := by omega
  have t4 : ¬ (D : Int) < (k : Int) := by omega
  have t5 : ¬ (s : Int) < 0 := by omega
  have t6 : ¬ (N : Int) ≤ (s : Int) := fun h => absurd (Int.ofNat_le.1 h) (Nat.not_le.2 hs)
  have t7 : ¬ N ≤ s := Nat.not_le.2 hs
  have t8 : decide (N ≤ s) = false := decide_eq_false t7
  have hk18 : k1 ≤ 8 := by omega
  have hk8 : k ≤ 8 := by omega
  clear hq hmn hk1 hN hs hqlt
  go_enter Try.func27, Try.ntmps27
  go_wp2_with fail
  refine (HMN.out _).mono ?_
  rintro e w' ⟨rfl, rfl⟩
  go_wp2_with fail
  clear t1 t2 t3 t4 t5 t6 t7 t8
  go_loopw [8] (fun i wr => ∃ j : Nat, j ≤ q ∧ i = .int .i64 (j : Int) ∧ wr = w) (fun i _ => q - (intOf i).toNat)
  case atStart => exact ⟨0, Nat.zero_le _, rfl, rfl⟩
  case round =>
    obtain ⟨j, hj, rfl, rfl⟩ := hrel
    have HJN : Hid (j < N) := Lib.hid (Nat.lt_of_le_of_lt hj HQL.out)
    have j1 : (j : Int) < (N : Int) := Int.ofNat_lt.2 HJN.out
    have HJ := Lib.hid hj
    have hbf := HBF.out j hj
    obtain ⟨x, hx⟩ : ∃ x, x = decide (j / 2 ^ (D - k1) = s / 2 ^ (D - k1)) := ⟨_, rfl⟩
    obtain ⟨y, hy⟩ : ∃ y, y = decide (j / 2 ^ (D - k) = s / 2 ^ (D - k)) := ⟨_, rfl⟩
    have hxy : (x = true ∧ y = false) ↔ j = q := by
      rw [hx, hy, decide_eq_true_eq, decide_eq_false_iff_not, HE1.out]
      exact hbf
    have hal1 := HAL1.out j HJN.out
    have hal2 := HAL2.out j HJN.out
    rw [← hx] at hal1
    rw [← hy] at hal2
    have HA1 := Lib.hid hal1
    have HA2 := Lib.hid hal2
    have HXY := Lib.hid hxy
    clear hbf hx hy hxy hal1 hal2
    go_wp2_with fail
    refine (HMN.out _).mono ?_
    rintro e w' ⟨rfl, rfl⟩
    go_wp2_with fail
    refine (HA1.out _).mono ?_
    rintro e w' ⟨rfl, rfl⟩
    cases x
    · have HNE : Hid (j < q) := Lib.hid (by
        have : ¬ j = q := fun e => by have := HXY.out.2 e; cases this.1
        have := HJ.out
        omega)
      go_wp2_with fail
      go_roundw
      case rel => exact ⟨j + 1, HNE.out, by go_num, trivial⟩
      case measure => have := HNE.out; simp [intOf]; omega
    · go_wp2_with fail
      refine (HA2.out _).mono ?_
      rintro e w' ⟨rfl, rfl⟩
      cases y
      · have HEQ : Hid (j = q) := Lib.hid (HXY.out.1 (by simp))
        go_wp2_with fail
        go_ret2
        exact ⟨by rw [← HEQ.out]; first | rfl | trivial, Below.refl _ _⟩
      · have HNE : Hid (j < q) := Lib.hid (by
          have : ¬ j = q := fun e => by have := HXY.out.2 e; cases this.2
          have := HJ.out
          omega)
        go_wp2_with fail
        go_roundw
        case rel => exact ⟨j + 1, HNE.out, by go_num, trivial⟩
        case measure => have := HNE.out; simp [intOf]; omega

set_option maxHeartbeats 1000000 in
theorem rbuddy_bad (s k D : Int) (w : World) (h : ¬ BuddyOk s k D) :
    Calls Try.prog 27 #[.int .i64 s, .int .i64 k, .int .i64 D] w fun e w' => e = .returned (.tuple #[.int .i64 0, .int .i64 2]) ∧ w = w' := by
  unfold BuddyOk at h
  have h' : D < 0 ∨ (¬ D < 0 ∧ 8 < D) ∨ (¬ D < 0 ∧ ¬ 8 < D ∧ k < 1) ∨ (¬ D < 0 ∧ ¬ 8 < D ∧ ¬ k < 1 ∧ D < k) ∨ (¬ D < 0 ∧ ¬ 8 < D ∧ ¬ k < 1 ∧ ¬ D < k ∧ s < 0) ∨ (¬ D < 0 ∧ ¬ 8 < D ∧ ¬ k < 1 ∧ ¬ D < k ∧ ¬ s < 0 ∧ ((2 ^ D.toNat : Nat) : Int) ≤ s) := by omega
  clear h
  rcases h' with h1 | ⟨h1, h2⟩ | ⟨h1, h2, h3⟩ | ⟨h1, h2, h3, h4⟩ | ⟨h1, h2, h3, h4, h5⟩ | ⟨h1, h2, h3, h4, h5, h6⟩
  case inr.inr.inr.inr.inr =>
    obtain ⟨E, rfl⟩ := Int.eq_ofNat_of_zero_le (show 0 ≤ D by omega)
    have hm := fun w => many_any E w (by omega)
    have h6' : ((2 ^ E : Nat) : Int) ≤ s := h6
    obtain ⟨N, hN⟩ : ∃ N, N = 2 ^ E := ⟨_, rfl⟩
    rw [← hN] at hm h6'
    have HM := Lib.hid hm
    clear hN hm h6
    go_enter Try.func27, Try.ntmps27
    go_wp2_with fail
    refine (HM.out _).mono ?_
    rintro e w' ⟨rfl, rfl⟩
    go_wp2_with fail
    go_ret2
    exact ⟨rfl, rfl⟩
  all_goals
    go_enter Try.func27, Try.ntmps27
    go_wp2
    go_ret2
    exact ⟨rfl, rfl⟩

/-- Both, of whatever numbers. -/
theorem buddy_gen (s k D : Int) : ∃ v E : Int, (∀ w, Calls Try.prog 26 #[.int .i64 s, .int .i64 k, .int .i64 D] w fun e w' => e = .returned (.tuple #[.int .i64 v, .int .i64 E]) ∧ Below w.heap.size w w') ∧
    ∀ w, Calls Try.prog 27 #[.int .i64 s, .int .i64 k, .int .i64 D] w fun e w' => e = .returned (.tuple #[.int .i64 v, .int .i64 E]) ∧ Below w.heap.size w w' := by
  by_cases h : BuddyOk s k D
  · obtain ⟨h1, h2, h3, h4, h5, h6⟩ := h
    obtain ⟨E, rfl⟩ := Int.eq_ofNat_of_zero_le h1
    obtain ⟨t, rfl⟩ := Int.eq_ofNat_of_zero_le h5
    obtain ⟨j, rfl⟩ := Int.eq_ofNat_of_zero_le (show 0 ≤ k by omega)
    have ht : t < 2 ^ E := Int.ofNat_lt.1 h6
    exact ⟨_, 0, fun w => buddy_ok t j E w (by omega) (by omega) (by omega) ht, fun w => rbuddy_ok t j E w (by omega) (by omega) (by omega) ht⟩
  · exact ⟨0, 2, fun w => (buddy_bad s k D w h).mono fun e w' ⟨h1, h2⟩ => ⟨h1, by rw [h2]; exact Below.refl _ _⟩, fun w => (rbuddy_bad s k D w h).mono fun e w' ⟨h1, h2⟩ => ⟨h1, by rw [h2]; exact Below.refl _ _⟩⟩

end Go.Proofs.Ytlkmcjjdjbdihaa
