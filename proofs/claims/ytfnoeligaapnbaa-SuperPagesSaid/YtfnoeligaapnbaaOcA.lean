/-
  Reading bytes: octets.Sum, octets.within, octets.Get; catchmentref01.plus, Sum, Number.
-/
import Derived.Test.YtfnoeligaapnbaaProg
import Derived.Test.YtfnoeligaapnbaaMem
import Derived.Test.YtfnoeligaapnbaaNum
namespace Go.Proofs.Ytfnoeligaapnbaa
open Go.RowKit
set_option linter.unusedVariables false

set_option maxHeartbeats 400000 in
theorem sum_any (A : Option Addr) (n c : Nat) (l : List UInt8) (w : World) (h : Reads8 w A n l) (hn : n ≤ maxLen) :
    Calls Try.prog 37 #[.slice A n c] w fun e w' => e = .returned (.int .u32 (sum8 l : Int)) ∧ w = w' := by
  unfold maxLen at hn
  obtain ⟨hl, hc⟩ := h
  subst hl
  have H := Lib.hid hc; clear hc
  go_enter Try.func37, Try.ntmps37
  go_wp2
  go_loop [3, 8] (fun s i => ∃ k : Nat, k ≤ l.length ∧ i = .int .i64 k ∧ s = .int .u64 (sum8 (l.take k) : Int)) (fun _ i => l.length - (intOf i).toNat)
  case atStart => exact ⟨0, Nat.zero_le _, rfl, rfl⟩
  case round =>
    obtain ⟨k, hk, rfl, rfl⟩ := hrel
    have hd := sum8_lt (l.take k)
    by_cases hlt : k < l.length
    · obtain ⟨b, o, rfl, hb, hcell⟩ := H.out (by omega)
      have hck := hcell k hlt
      clear hcell hb
      have hx := UInt8.toNat_lt l[k]
      go_wp2
      go_round
      case rel =>
        refine ⟨k + 1, by omega, by go_num, ?_⟩
        rw [take_snoc8 l k hlt]
        unfold sum8
        rw [sumFrom_snoc]
        unfold sumStep
        congr 1
      case measure => simp [intOf]; omega
    · have e : l.take k = l := List.take_of_length_le (by omega)
      have he := Lib.hid e; clear e
      go_wp2
      go_ret
      rw [he.out]
      exact ⟨rfl, rfl⟩

/-- plus: two numbers below 2^32 - 5 together, modulo 2^32 - 5. -/
theorem plus_any (a b : Nat) (w : World) (ha : a < 4294967291) (hb : b < 4294967291) :
    Calls Try.prog 48 #[.int .u32 (a : Int), .int .u32 (b : Int)] w fun e w' => e = .returned (.int .u32 (((a + b) % 4294967291 : Nat) : Int)) ∧ w = w' := by
  by_cases h : 4294967291 ≤ a + b
  · have h1 : (4294967291 : Int) - b ≤ a := by omega
    go_enter Try.func48, Try.ntmps48
    go_wp2
    go_ret
    exact ⟨ret_int (by omega), rfl⟩
  · have h1 : (a : Int) < 4294967291 - b := by omega
    go_enter Try.func48, Try.ntmps48
    go_wp2
    go_ret
    exact ⟨ret_int (by omega), rfl⟩

theorem within_yes (n at_ size : Int) (w : World) (hn : n ≤ 9223372036854775807) (h1 : 1 ≤ size) (h2 : size ≤ 8) (h3 : 0 ≤ at_) (h4 : at_ ≤ n - size) :
    Calls Try.prog 44 #[.int .i64 n, .int .i64 at_, .int .i64 size] w fun e w' => e = .returned (.bool true) ∧ w = w' := by
  go_enter Try.func44, Try.ntmps44
  go_wp2
  go_ret
  exact ⟨rfl, rfl⟩

theorem within_no (n at_ size : Int) (w : World) (hn0 : 0 ≤ n) (hn : n ≤ 9223372036854775807) (h : ¬ (1 ≤ size ∧ size ≤ 8 ∧ 0 ≤ at_ ∧ at_ ≤ n - size)) :
    Calls Try.prog 44 #[.int .i64 n, .int .i64 at_, .int .i64 size] w fun e w' => e = .returned (.bool false) ∧ w = w' := by
  by_cases h1 : 1 ≤ size
  · by_cases h2 : size ≤ 8
    · by_cases h3 : 0 ≤ at_
      · have h4 : decide (at_ ≤ n - size) = false := by simp; omega
        clear h
        go_enter Try.func44, Try.ntmps44
        go_wp2
        go_ret
        exact ⟨rfl, rfl⟩
      · clear h
        go_enter Try.func44, Try.ntmps44
        go_wp2
        go_ret
        exact ⟨rfl, rfl⟩
    · clear h
      go_enter Try.func44, Try.ntmps44
      go_wp2
      go_ret
      exact ⟨rfl, rfl⟩
  · clear h
    go_enter Try.func44, Try.ntmps44
    go_wp2
    go_ret
    exact ⟨rfl, rfl⟩

/-- Get: the places are not all there. -/
theorem get_no (A : Option Addr) (n c : Nat) (at_ size : Int) (w : World) (hn : n ≤ maxLen) (h : ¬ (1 ≤ size ∧ size ≤ 8 ∧ 0 ≤ at_ ∧ at_ ≤ n - size)) :
    Calls Try.prog 31 #[.slice A n c, .int .i64 at_, .int .i64 size] w fun e w' => e = .returned (.tuple #[.int .u64 0, .bool false]) ∧ w = w' := by
  unfold maxLen at hn
  have H := Lib.hid h; clear h
  go_enter Try.func31, Try.ntmps31
  go_wp2_with (go_at_call 44; refine (within_no _ _ _ _ (by omega) (by omega) H.out).mono ?_; rintro e w' ⟨rfl, rfl⟩)
  go_ret2
  exact ⟨rfl, rfl⟩

set_option maxHeartbeats 400000 in
/-- Get: the number whose bytes stand there. -/
theorem get_yes (b o n c : Nat) (l : List UInt8) (at_ size : Nat) (w : World) (h : Reads8 w (some ⟨b, o, none⟩) n l) (hn : n ≤ maxLen) (hnc : n ≤ c) (h1 : 1 ≤ size) (h2 : size ≤ 8) (h4 : at_ + size ≤ n) :
    Calls Try.prog 31 #[.slice (some ⟨b, o, none⟩) n c, .int .i64 (at_ : Int), .int .i64 (size : Int)] w fun e w' => e = .returned (.tuple #[.int .u64 (num8 ((l.drop at_).take size) : Int), .bool true]) ∧ w = w' := by
  unfold maxLen at hn
  have hs := (h.sub at_ size h4 (by omega))
  generalize hm : (l.drop at_).take size = m at *
  obtain ⟨hl, hc⟩ := hs
  obtain ⟨b', o', e, _, hcell⟩ := hc (by omega)
  injection e with e
  injection e with e1 e2
  subst e1; subst e2
  clear hm hc h
  have HL := Lib.hid hl; clear hl
  have HC := Lib.hid hcell; clear hcell
  go_enter Try.func31, Try.ntmps31
  go_wp2_with (go_at_call 44; refine (within_yes _ _ _ _ (by omega) (by omega) (by omega) (by omega) (by omega)).mono ?_; rintro e w' ⟨rfl, rfl⟩)
  go_loop [8, 24] (fun s i => ∃ k : Nat, k ≤ size ∧ i = .int .i64 k ∧ s = .int .u64 (num8 (m.take k) : Int)) (fun _ i => size - (intOf i).toNat)
  case atStart => exact ⟨0, Nat.zero_le _, rfl, rfl⟩
  case round =>
    obtain ⟨k, hk, rfl, rfl⟩ := hrel
    by_cases hlt : k < size
    · have hkl : k < m.length := by have := HL.out; omega
      have hck := HC.out k hkl
      have hd : num8 (m.take k) < 72057594037927936 := num8_lt_of (k := 7) (by simp; omega)
      have hx := UInt8.toNat_lt m[k]
      go_wp2
      go_round
      case rel => exact ⟨k + 1, by omega, by go_num, by rw [or_byte _ _ hd hx, take_snoc8 m k hkl, num8_snoc]⟩
      case measure => simp [intOf]; omega
    · have e : m.take k = m := List.take_of_length_le (by have := HL.out; omega)
      have he := Lib.hid e; clear e
      go_wp2
      go_ret2
      rw [he.out]
      exact ⟨rfl, rfl⟩

set_option maxHeartbeats 400000 in
/-- The document's sum is the same. -/
theorem rsum_any (A : Option Addr) (n c : Nat) (l : List UInt8) (w : World) (h : Reads8 w A n l) (hn : n ≤ maxLen) :
    Calls Try.prog 45 #[.slice A n c] w fun e w' => e = .returned (.int .u32 (sum8 l : Int)) ∧ w = w' := by
  unfold maxLen at hn
  obtain ⟨hl, hc⟩ := h
  subst hl
  have H := Lib.hid hc; clear hc
  go_enter Try.func45, Try.ntmps45
  go_wp2
  go_loop [3, 4, 5, 6, 13, 14, 15, 16, 17, 18, 19] (fun s i t5 t6 t13 t14 t15 t16 t17 t18 t19 => ∃ k : Nat, k ≤ l.length ∧ i = .int .i64 k ∧ s = .int .u32 (sum8 (l.take k) : Int)) (fun _ i _ _ _ _ _ _ _ _ _ => l.length - (intOf i).toNat)
  case atStart => exact ⟨0, Nat.zero_le _, rfl, rfl⟩
  case round =>
    obtain ⟨k, hk, rfl, rfl⟩ := hrel
    have hd := sum8_lt (l.take k)
    by_cases hlt : k < l.length
    · obtain ⟨b, o, rfl, hb, hcell⟩ := H.out (by omega)
      have hck := hcell k hlt
      clear hcell hb
      have hx := UInt8.toNat_lt l[k]
      generalize hS : sum8 (l.take k) = S at *
      have HS := Lib.hid hS; clear hS
      go_wp2
      go_loop [5, 6] (fun t i => ∃ j : Nat, j ≤ 31 ∧ i = .int .i64 j ∧ t = .int .u32 ((j * S % 4294967291 : Nat) : Int)) (fun _ i => 31 - (intOf i).toNat)
      case atStart => exact ⟨0, Nat.zero_le _, rfl, by simp⟩
      case round =>
        obtain ⟨j, hj, rfl, rfl⟩ := hrel
        have hm : j * S % 4294967291 < 4294967291 := Nat.mod_lt _ (by omega)
        generalize hM : j * S % 4294967291 = M at *
        have HM := Lib.hid hM; clear hM
        by_cases hj1 : j < 31
        · go_wp2_with (go_at_call 48; refine (plus_any _ _ _ (by omega) (by omega)).mono ?_; rintro e w' ⟨rfl, rfl⟩)
          go_round
          case rel => exact ⟨j + 1, by omega, by go_num, vint (by have := HM.out; rw [Nat.succ_mul]; omega)⟩
          case measure => simp [intOf]; omega
        · go_wp2_with fail
          refine (plus_any _ _ _ (by omega) (by omega)).mono ?_
          rintro e w' ⟨rfl, rfl⟩
          have hm2 : (M + l[k].toNat) % 4294967291 < 4294967291 := Nat.mod_lt _ (by omega)
          generalize hQ : (M + l[k].toNat) % 4294967291 = Q at *
          have HQ := Lib.hid hQ; clear hQ
          go_wp2_with fail
          refine (plus_any Q 7 _ (by omega) (by omega)).mono ?_
          rintro e w' ⟨rfl, rfl⟩
          have hj31 : j = 31 := by omega
          have e : (Q + 7) % 4294967291 = sum8 (l.take (k + 1)) := by
            rw [take_snoc8 l k hlt]
            unfold sum8
            rw [sumFrom_snoc, show sumFrom 1 (l.take k) = S from HS.out]
            unfold sumStep
            have h1 := HQ.out
            have h2 := HM.out
            subst hj31
            omega
          rw [e]
          clear e hj31
          go_wp2_with fail
          go_round
          case rel => exact ⟨k + 1, by omega, by go_num, rfl⟩
          case measure => simp [intOf]; omega
    · have e : l.take k = l := List.take_of_length_le (by omega)
      have he := Lib.hid e; clear e
      go_wp2
      go_ret
      rw [he.out]
      exact ⟨rfl, rfl⟩

set_option maxHeartbeats 400000 in
/-- Number: of up to eight bytes. -/
theorem number_any (A : Option Addr) (n c : Nat) (l : List UInt8) (w : World) (h : Reads8 w A n l) (hn : n ≤ 8) :
    Calls Try.prog 33 #[.slice A n c] w fun e w' => e = .returned (.int .u64 (num8 l : Int)) ∧ w = w' := by
  obtain ⟨hl, hc⟩ := h
  subst hl
  have H := Lib.hid hc; clear hc
  go_enter Try.func33, Try.ntmps33
  go_wp2
  go_loop [3, 4] (fun s i => ∃ k : Nat, k ≤ l.length ∧ i = .int .i64 k ∧ s = .int .u64 (num8 (l.take k) : Int)) (fun _ i => l.length - (intOf i).toNat)
  case atStart => exact ⟨0, Nat.zero_le _, rfl, rfl⟩
  case round =>
    obtain ⟨k, hk, rfl, rfl⟩ := hrel
    by_cases hlt : k < l.length
    · obtain ⟨b, o, rfl, hb, hcell⟩ := H.out (by omega)
      have hck := hcell k hlt
      clear hcell hb
      have hd : num8 (l.take k) < 72057594037927936 := num8_lt_of (k := 7) (by simp; omega)
      have hx := UInt8.toNat_lt l[k]
      go_wp2
      go_round
      case rel => exact ⟨k + 1, by omega, by go_num, vint (by rw [take_snoc8 l k hlt, num8_snoc]; omega)⟩
      case measure => simp [intOf]; omega
    · have e : l.take k = l := List.take_of_length_le (by omega)
      have he := Lib.hid e; clear e
      go_wp2
      go_ret
      rw [he.out]
      exact ⟨rfl, rfl⟩

end Go.Proofs.Ytfnoeligaapnbaa
