/-
  The document's Bit, Alike, many.
-/
import Derived.Test.YtlkmcjjdjbdihaaDrLWt
import Derived.Test.YtlkmcjjdjbdihaaDrSpP
namespace Go.Proofs.Ytlkmcjjdjbdihaa
open Go.RowKit Go.Maps
set_option linter.unusedVariables false
set_option linter.unusedSimpArgs false
attribute [local go_sem ↓] Go.wp_at_zero Go.wp_at_succ

def bitN (n k B : Nat) : Nat := n / 2 ^ (B - 1 - k) % 2

set_option maxHeartbeats 1000000 in
theorem bit_any (n k B : Nat) (w : World) (hn : n < 512) (hk : k < B) (hB : B ≤ 8) :
    Calls Try.prog 47 #[.int .i64 (n : Int), .int .i64 (k : Int), .int .i64 (B : Int)] w fun e w' => e = .returned (.int .i64 (bitN n k B : Int)) ∧ w = w' := by
  unfold bitN
  obtain ⟨t, ht⟩ : ∃ t, t = B - 1 - k := ⟨_, rfl⟩
  obtain ⟨B1, hB1⟩ : ∃ B1, B1 = B - 1 := ⟨_, rfl⟩
  rw [← ht]
  have e1 : (B : Int) - 1 = (B1 : Int) := by omega
  have e2 : (B1 : Int) - (k : Int) = (t : Int) := by omega
  have t8 : t ≤ 8 := by omega
  have b8 : B1 ≤ 8 := by omega
  have b9 : B ≤ 8 := hB
  have HN := Lib.hid hn
  clear hn hk hB ht hB1
  go_enter Try.func47, Try.ntmps47
  go_wp2_with fail
  go_loopw [0, 7] (fun a i wr => ∃ j : Nat, j ≤ t ∧ i = .int .i64 (j : Int) ∧ a = .int .i64 ((n / 2 ^ j : Nat) : Int) ∧ wr = w) (fun _ i _ => t - (intOf i).toNat)
  case atStart => exact ⟨0, Nat.zero_le _, rfl, by rw [Nat.pow_zero, Nat.div_one], rfl⟩
  case round =>
    obtain ⟨j, hj, rfl, rfl, rfl⟩ := hrel
    obtain ⟨x, hx⟩ : ∃ x, x = n / 2 ^ j := ⟨_, rfl⟩
    have hxn : x < 512 := by rw [hx]; exact Nat.lt_of_le_of_lt (Nat.div_le_self _ _) HN.out
    obtain ⟨y, hy⟩ : ∃ y, y = n / 2 ^ (j + 1) := ⟨_, rfl⟩
    have hxy : (x : Int) / 2 = (y : Int) := by rw [hx, hy, Nat.pow_succ, ← Nat.div_div_eq_div_mul]; rfl
    have wy := wrap_small (n := y) (by omega)
    have wy1 := wy.1
    have wy2 := wy.2
    rw [← hx]
    have HX := Lib.hid hx
    have HY := Lib.hid hy
    clear hx hy wy
    by_cases hlt : j < t
    · go_wp2_with fail
      go_roundw
      case rel => exact ⟨j + 1, by omega, by go_num, by rw [HY.out], trivial⟩
      case measure => simp [intOf]; omega
    · obtain rfl : t = j := by omega
      have hr : (x : Int) % 2 = ((x % 2 : Nat) : Int) := rfl
      go_wp2_with fail
      go_ret
      rw [← HX.out]
      exact ⟨rfl, rfl⟩

theorem bit_step {a b e : Nat} : a / 2 ^ e = b / 2 ^ e ↔ (a / 2 ^ (e + 1) = b / 2 ^ (e + 1) ∧ a / 2 ^ e % 2 = b / 2 ^ e % 2) := by
  rw [Nat.pow_succ, ← Nat.div_div_eq_div_mul, ← Nat.div_div_eq_div_mul]
  omega

set_option maxHeartbeats 1000000 in
theorem ralike_any (a b k B : Nat) (w : World) (ha : a < 2 ^ B) (hb : b < 2 ^ B) (hk : k ≤ B) (hB : B ≤ 8) :
    Calls Try.prog 39 #[.int .i64 (a : Int), .int .i64 (b : Int), .int .i64 (k : Int), .int .i64 (B : Int)] w fun e w' => e = .returned (.bool (decide (a / 2 ^ (B - k) = b / 2 ^ (B - k)))) ∧ w = w' := by
  have h8 := pow8 hB
  have HA := Lib.hid (show a < 512 by omega)
  have HB := Lib.hid (show b < 512 by omega)
  have H0 : Hid (a / 2 ^ B = b / 2 ^ B) := Lib.hid (by rw [Nat.div_eq_of_lt ha, Nat.div_eq_of_lt hb])
  clear ha hb h8
  go_enter Try.func39, Try.ntmps39
  go_wp2_with fail
  go_loopw [9] (fun i wr => ∃ j : Nat, j ≤ k ∧ i = .int .i64 (j : Int) ∧ a / 2 ^ (B - j) = b / 2 ^ (B - j) ∧ wr = w) (fun i _ => k - (intOf i).toNat)
  case atStart => exact ⟨0, Nat.zero_le _, rfl, H0.out, rfl⟩
  case round =>
    obtain ⟨j, hj, rfl, hab, rfl⟩ := hrel
    have HAB := Lib.hid hab; clear hab
    by_cases hlt : j < k
    · have h1 : (j : Int) < (k : Int) := by omega
      have HST := Lib.hid (bit_step (a := a) (b := b) (e := B - 1 - j))
      have HE : Hid (B - 1 - j + 1 = B - j) := Lib.hid (by omega)
      have HE2 : Hid (B - 1 - j = B - (j + 1)) := Lib.hid (by omega)
      have HJ := Lib.hid (show j < B by omega)
      have HJK := Lib.hid hlt
      go_wp2_with fail
      refine (bit_any a j B _ HA.out HJ.out hB).mono ?_
      rintro e w' ⟨rfl, rfl⟩
      go_wp2_with fail
      refine (bit_any b j B _ HB.out HJ.out hB).mono ?_
      rintro e w' ⟨rfl, rfl⟩
      obtain ⟨x, hx⟩ : ∃ x, x = bitN a j B := ⟨_, rfl⟩
      obtain ⟨y, hy⟩ : ∃ y, y = bitN b j B := ⟨_, rfl⟩
      rw [← hx, ← hy]
      have HX := Lib.hid hx
      have HY := Lib.hid hy
      clear hx hy
      by_cases hxy : x = y
      · subst hxy
        go_wp2_with fail
        go_roundw
        case rel =>
          refine ⟨j + 1, by omega, by go_num, ?_, trivial⟩
          rw [← HE2.out]
          refine HST.out.2 ⟨by rw [HE.out]; exact HAB.out, ?_⟩
          have h2 := HX.out
          have h3 := HY.out
          unfold bitN at h2 h3
          rw [← h2, ← h3]
        case measure => simp [intOf]; omega
      · have q1 : ((x : Int) == (y : Int)) = false := beq_eq_false_iff_ne.2 (fun e => hxy (Int.ofNat.inj e))
        have q2 : (x == y) = false := beq_eq_false_iff_ne.2 hxy
        have HXY := Lib.hid hxy
        clear hxy
        have hf : decide (a / 2 ^ (B - k) = b / 2 ^ (B - k)) = false := decide_eq_false (fun e => HXY.out (by
          have h4 := HST.out.1 (by rw [HE2.out]; exact div_up e (by have := HJK.out; omega))
          rw [HX.out, HY.out]
          exact h4.2))
        have HF := Lib.hid hf; clear hf
        go_wp2_with fail
        go_ret
        exact ⟨by rw [HF.out]; rfl, rfl⟩
    · obtain rfl : k = j := by omega
      have hf : decide (a / 2 ^ (B - k) = b / 2 ^ (B - k)) = true := decide_eq_true HAB.out
      have HF := Lib.hid hf; clear hf
      go_wp2_with fail
      go_ret
      exact ⟨by rw [HF.out]; rfl, rfl⟩

set_option maxHeartbeats 1000000 in
theorem many_any (k : Nat) (w : World) (hk : k ≤ 8) :
    Calls Try.prog 36 #[.int .i64 (k : Int)] w fun e w' => e = .returned (.int .i64 ((2 ^ k : Nat) : Int)) ∧ w = w' := by
  go_enter Try.func36, Try.ntmps36
  go_wp2_with fail
  go_loopw [3, 4] (fun a i wr => ∃ j : Nat, j ≤ k ∧ i = .int .i64 (j : Int) ∧ a = .int .i64 ((2 ^ j : Nat) : Int) ∧ wr = w) (fun _ i _ => k - (intOf i).toNat)
  case atStart => exact ⟨0, Nat.zero_le _, rfl, rfl, rfl⟩
  case round =>
    obtain ⟨j, hj, rfl, rfl, rfl⟩ := hrel
    by_cases hlt : j < k
    · have hp := pow8 (D := j + 1) (by omega)
      obtain ⟨x, hx⟩ : ∃ x, x = 2 ^ j := ⟨_, rfl⟩
      obtain ⟨y, hy⟩ : ∃ y, y = 2 ^ (j + 1) := ⟨_, rfl⟩
      have hxy : (x : Int) * 2 = (y : Int) := by rw [hx, hy, Nat.pow_succ]; rfl
      rw [← hy] at hp
      have wy1 := (wrap_small (n := y) (by omega)).1
      have wy2 := (wrap_small (n := y) (by omega)).2
      rw [← hx]
      have HY := Lib.hid hy
      clear hx hy
      go_wp2_with fail
      go_roundw
      case rel => exact ⟨j + 1, by omega, by go_num, by rw [HY.out], trivial⟩
      case measure => simp [intOf]; omega
    · obtain rfl : k = j := by omega
      obtain ⟨x, hx⟩ : ∃ x, x = 2 ^ k := ⟨_, rfl⟩
      rw [← hx]
      have HX := Lib.hid hx
      clear hx
      go_wp2_with fail
      go_ret
      exact ⟨by rw [← HX.out]; rfl, rfl⟩

end Go.Proofs.Ytlkmcjjdjbdihaa
