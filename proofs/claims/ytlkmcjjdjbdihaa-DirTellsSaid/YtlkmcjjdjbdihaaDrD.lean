/-
  dir.alike, Buddy, At.
-/
import Derived.Test.YtlkmcjjdjbdihaaDrC
namespace Go.Proofs.Ytlkmcjjdjbdihaa
open Go.RowKit Go.Maps
set_option linter.unusedVariables false
attribute [local go_sem ↓] Go.wp_at_zero Go.wp_at_succ

def rval (r : Run) : Value := .agg #[.int .i64 (r.1 : Int), .int .i64 (r.2 : Int)]
/-- The slots that are alike with s, m of them. -/
def alikeR (s m : Nat) : Run := (s / m * m, s / m * m + m)

theorem shl2 {k : Nat} (hk : k ≤ 8) : IntKind.i64.wrap ((2 : Int) ^ k) = ((2 ^ k : Nat) : Int) := by
  have : k = 0 ∨ k = 1 ∨ k = 2 ∨ k = 3 ∨ k = 4 ∨ k = 5 ∨ k = 6 ∨ k = 7 ∨ k = 8 := by omega
  rcases this with rfl | rfl | rfl | rfl | rfl | rfl | rfl | rfl | rfl <;> decide +kernel
theorem pow_le8 {j : Nat} (h : j ≤ 8) : 0 < 2 ^ j ∧ 2 ^ j ≤ 256 := ⟨pow_pos2 j, pow8 h⟩

set_option maxHeartbeats 1000000 in
theorem alike_any (s k D : Nat) (w : World) (hk : k ≤ D) (hD : D ≤ 8) (hs : s < 2 ^ D) :
    Calls Try.prog 38 #[.int .i64 (s : Int), .int .i64 (k : Int), .int .i64 (D : Int)] w fun e w' => e = .returned (rval (alikeR s (2 ^ (D - k)))) ∧ Below w.heap.size w w' := by
  have hm := pow_le8 (j := D - k) (by omega)
  have hs8 := pow8 hD
  have e1 : (D : Int) - (k : Int) = ((D - k : Nat) : Int) := by omega
  have hsh := shl1 (k := D - k) (by omega)
  generalize D - k = j at *
  obtain ⟨m, hmm⟩ : ∃ m, m = 2 ^ j := ⟨_, rfl⟩
  rw [← hmm] at hm hsh ⊢
  have hq : (s : Int).tdiv (m : Int) = ((s / m : Nat) : Int) := by rw [Int.tdiv_eq_ediv_of_nonneg (by omega)]; rfl
  have hle : s / m * m ≤ s := Nat.div_mul_le_self s m
  have hp : ((s / m : Nat) : Int) * (m : Int) = ((s / m * m : Nat) : Int) := by rw [Int.natCast_mul]
  unfold alikeR rval
  dsimp only
  generalize s / m * m = p at *
  generalize hqe : s / m = q at *
  have hz : (m : Int) ≠ 0 := by omega
  have hw1 : IntKind.i64.wrap ((p : Int) + (m : Int)) = (p : Int) + (m : Int) := IntWalk.i64_in _ (by omega)
  have hqs : q ≤ s := by rw [← hqe]; exact Nat.div_le_self s m
  have hw3 : IntKind.i64.wrap (q : Int) = (q : Int) := IntWalk.i64_in _ (by omega)
  have hw4 : wrap64 (q : Int) = (q : Int) := by simp only [wrap64]; omega
  have hm0 : ¬ m = 0 := by omega
  have hw2 : IntKind.i64.wrap (p : Int) = (p : Int) := IntWalk.i64_in _ (by omega)
  clear hmm hqe hqs
  go_enter Try.func38, Try.ntmps38
  go_wp2
  go_region_held3 (fun _ => True) (trivial) (fail)
  all_goals
    go_wp2
    refine bodyPost_ret (v := .agg #[.int .i64 (p : Int), .int .i64 ((p : Int) + (m : Int))]) (by simp [results, Try.results38, go_sem]) rfl ⟨by simp, ?_⟩
    exact ((Below.refl _ w).alloc (Nat.le_refl _) _).drew

theorem i64_xor_nat (a b : Nat) (ha : a < 2 ^ 62) (hb : b < 2 ^ 62) : bits .xor .i64 (a : Int) (b : Int) = ((a ^^^ b : Nat) : Int) := by
  have hx : a ^^^ b < 2 ^ 62 := Nat.xor_lt_two_pow ha hb
  show IntKind.i64.wrap ((BitVec.ofInt 64 (a : Int) ^^^ BitVec.ofInt 64 (b : Int)).toNat : Int) = _
  rw [BitVec.toNat_xor, ofInt_u64 a (by omega), ofInt_u64 b (by omega), IntKind.wrap_i64]
  omega

set_option maxHeartbeats 1000000 in
theorem buddy_ok (s k D : Nat) (w : World) (h1 : 1 ≤ k) (hk : k ≤ D) (hD : D ≤ 8) (hs : s < 2 ^ D) :
    Calls Try.prog 26 #[.int .i64 (s : Int), .int .i64 (k : Int), .int .i64 (D : Int)] w fun e w' => e = .returned (.tuple #[.int .i64 ((s / 2 ^ (D - k) * 2 ^ (D - k) ^^^ 2 ^ (D - k) : Nat) : Int), .int .i64 0]) ∧ Below w.heap.size w w' := by
  have hc := fun w => alike_any s k D w hk hD hs
  have hle : s / 2 ^ (D - k) * 2 ^ (D - k) ≤ s := Nat.div_mul_le_self s _
  have hs8 := pow8 hD
  have hx := i64_xor_nat (s / 2 ^ (D - k) * 2 ^ (D - k)) (2 ^ (D - k)) (by omega) (by have := pow8 (D := D - k) (by omega); omega)
  have e1 : (D : Int) - (k : Int) = ((D - k : Nat) : Int) := by omega
  have hsh := shl1 (k := D - k) (by omega)
  have hsh2 := shl1 (k := D) hD
  have hsh3 := shl2 (k := D - k) (by omega)
  have HC := Lib.hid hc; clear hc
  unfold rval alikeR at HC
  dsimp only at HC
  generalize s / 2 ^ (D - k) * 2 ^ (D - k) = p at *
  generalize p ^^^ 2 ^ (D - k) = x at *
  have hj8 : D - k ≤ 8 := by omega
  generalize D - k = j at *
  obtain ⟨m, hmm⟩ : ∃ m, m = 2 ^ j := ⟨_, rfl⟩
  obtain ⟨N, hN⟩ : ∃ N, N = 2 ^ D := ⟨_, rfl⟩
  rw [← hmm] at hx hsh hsh3 HC
  rw [← hN] at hsh2 hs hs8
  have hfd : ∀ w : World, (Instr.field 56 (.agg #[.int .i64 (p : Int), .int .i64 ((p : Int) + (m : Int))]) 0).run Try.prog w = .ok (.int .i64 (p : Int)) w := fun _ => by kernel_rfl
  have hwj : IntKind.i64.wrap (j : Int) = (j : Int) := IntWalk.i64_in _ (by omega)
  have t1 : ¬ (D : Int) < 0 := by omega
  have t2 : ¬ (8 : Int) < (D : Int) := by omega
  have t3 : ¬ (k : Int) < 1 := by omega
  have t4 : ¬ (D : Int) < (k : Int) := by omega
  have t5 : ¬ (s : Int) < 0 := by omega
  have t6 : ¬ (N : Int) ≤ (s : Int) := fun h => absurd (Int.ofNat_le.1 h) (Nat.not_le.2 hs)
  clear hmm hN hle hs8 hs hj8
  go_enter Try.func26, Try.ntmps26
  go_wp2_with fail
  go_region_held3 (fun _ => True) (trivial) ((go_at_call 38; refine (HC.out _).mono ?_; rintro e w' ⟨rfl, hb⟩; have HB := Lib.hid hb; clear hb))
  all_goals
    go_wp2
    go_ret2
    exact ⟨rfl, (Below.refl _ w).drew.trans HB.out⟩

def BuddyOk (s k D : Int) : Prop := 0 ≤ D ∧ D ≤ 8 ∧ 1 ≤ k ∧ k ≤ D ∧ 0 ≤ s ∧ s < ((2 ^ D.toNat : Nat) : Int)

set_option maxHeartbeats 1000000 in
theorem buddy_bad (s k D : Int) (w : World) (h : ¬ BuddyOk s k D) :
    Calls Try.prog 26 #[.int .i64 s, .int .i64 k, .int .i64 D] w fun e w' => e = .returned (.tuple #[.int .i64 0, .int .i64 2]) ∧ w = w' := by
  unfold BuddyOk at h
  have h' : D < 0 ∨ (¬ D < 0 ∧ 8 < D) ∨ (¬ D < 0 ∧ ¬ 8 < D ∧ k < 1) ∨ (¬ D < 0 ∧ ¬ 8 < D ∧ ¬ k < 1 ∧ D < k) ∨ (¬ D < 0 ∧ ¬ 8 < D ∧ ¬ k < 1 ∧ ¬ D < k ∧ s < 0) ∨ (¬ D < 0 ∧ ¬ 8 < D ∧ ¬ k < 1 ∧ ¬ D < k ∧ ¬ s < 0 ∧ ((2 ^ D.toNat : Nat) : Int) ≤ s) := by omega
  clear h
  rcases h' with h1 | ⟨h1, h2⟩ | ⟨h1, h2, h3⟩ | ⟨h1, h2, h3, h4⟩ | ⟨h1, h2, h3, h4, h5⟩ | ⟨h1, h2, h3, h4, h5, h6⟩
  case inr.inr.inr.inr.inr =>
    have hsh := shl1 (k := D.toNat) (by omega)
    obtain ⟨N, hN⟩ : ∃ N, N = 2 ^ D.toNat := ⟨_, rfl⟩
    rw [← hN] at hsh h6
    clear hN
    go_enter Try.func26, Try.ntmps26
    go_wp2
    go_ret2
    exact ⟨rfl, rfl⟩
  all_goals
    go_enter Try.func26, Try.ntmps26
    go_wp2
    go_ret2
    exact ⟨rfl, rfl⟩

/-- A directory's slot of a fingerprint. -/
def slotOf (D : Nat) (x : UInt64) : Nat := x.toNat / 2 ^ (64 - D)

theorem slot_lt (X D : Nat) (hx : X < 2 ^ 64) (h8 : D ≤ 8) : X / 2 ^ (64 - D) < 2 ^ D :=
  Nat.div_lt_of_lt_mul (by rw [← Nat.pow_add, show 64 - D + D = 64 by omega]; exact hx)
theorem slot_wrap (X D : Nat) (hx : X < 2 ^ 64) (h8 : D ≤ 8) : wrap64 ((X : Int) / 2 ^ (64 - D)) = ((X / 2 ^ (64 - D) : Nat) : Int) := by
  have h1 := slot_lt X D hx h8
  have h2 := pow8 h8
  have e : (X : Int) / 2 ^ (64 - D) = ((X / 2 ^ (64 - D) : Nat) : Int) := by simp
  rw [e]
  generalize X / 2 ^ (64 - D) = q at *
  have h3 : q < 256 := Nat.lt_of_lt_of_le h1 h2
  clear h1 h2 e hx
  simp only [wrap64]
  omega

set_option maxHeartbeats 1000000 in
theorem at_any (d : Dir) (A : Option Addr) (n c : Nat) (x : UInt64) (w : World) (h : ReadsW w A n d.slots) (hn : n ≤ maxLen) :
    Calls Try.prog 12 #[dval d A n c, .int .u64 (x.toNat : Int)] w fun e w' => e = .returned (.tuple #[.int .i64 (if rightB d = true then (slotOf d.depth.toNat x : Int) else 0), .int .i64 (if rightB d = true then 0 else 170)]) ∧ Below w.heap.size w w' := by
  have HR := Lib.hid h; clear h
  obtain ⟨W0, hW0⟩ : ∃ W0 : World, W0 = w.alloc (.cells #[.int .u8 (d.depth.toNat : Int), .slice A n c] 24) := ⟨_, rfl⟩
  have B0 : Hid (Below w.heap.size w W0) := Lib.hid (by rw [hW0]; exact (Below.refl _ w).alloc (Nat.le_refl _) _)
  have S0 : Hid (BoxD W0 w.heap.size d A n c) := Lib.hid (by rw [hW0]; exact BoxD.new w d A n c HR.out)
  have HW := Lib.hid hW0; clear hW0
  cases hr : rightB d
  · have HF := Lib.hid hr; clear hr
    simp only [Bool.false_eq_true, if_false]
    unfold dval
    go_enter Try.func12, Try.ntmps12
    go_wp2_with fail
    rw [← HW.out, dval_eq]
    refine (right_any d A n c _ S0.out.rd hn).mono ?_
    rintro e w1 ⟨rfl, hb⟩
    rw [HF.out]
    have B1 := Lib.hid (B0.out.trans (hb.mono B0.out.size)); clear hb
    go_wp2_with fail
    go_ret2
    exact ⟨rfl, B1.out⟩
  · have HF := Lib.hid hr; clear hr
    have hR := rightB_iff.1 HF.out
    have h8 := hR.le
    simp only [if_true]
    unfold dval
    go_enter Try.func12, Try.ntmps12
    go_wp2_with fail
    rw [← HW.out, dval_eq]
    refine (right_any d A n c _ S0.out.rd hn).mono ?_
    rintro e w1 ⟨rfl, hb⟩
    rw [HF.out]
    have B1 := Lib.hid (B0.out.trans (hb.mono B0.out.size))
    obtain ⟨a0, a1⟩ := (S0.out.keep hb).cells
    clear hb hR
    have hx := UInt64.toNat_lt x
    obtain ⟨X, hX⟩ : ∃ X, X = x.toNat := ⟨_, rfl⟩
    obtain ⟨D, hD⟩ : ∃ D, D = d.depth.toNat := ⟨_, rfl⟩
    rw [← hX] at hx ⊢
    rw [← hD] at h8 a0
    have HX := Lib.hid hX; clear hX
    have HD := Lib.hid hD; clear hD
    have u8w : ((64 : Int) - (D : Int)) % 256 = ((64 - D : Nat) : Int) := by omega
    have u8x : IntKind.u8.wrap ((64 : Int) - (D : Int)) = ((64 - D : Nat) : Int) := by rw [IntWalk.u8_in _ (by omega)]; omega
    go_wp2_with fail
    go_ret2
    refine ⟨?_, B1.out⟩
    unfold slotOf
    rw [← HX.out, ← HD.out]
    show Ending.returned (.tuple #[.int .i64 (wrap64 ((X : Int) / 2 ^ (64 - D))), .int .i64 0]) = _
    rw [slot_wrap X D hx h8]

end Go.Proofs.Ytlkmcjjdjbdihaa
