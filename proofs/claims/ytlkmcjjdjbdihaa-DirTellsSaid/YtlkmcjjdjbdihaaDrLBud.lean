/-
  DirBuddy: the plain law, and the walk.
-/
import Derived.Test.YtlkmcjjdjbdihaaDrJ
namespace Go.Proofs.Ytlkmcjjdjbdihaa
open Go.RowKit Go.Maps
set_option linter.unusedVariables false
set_option linter.unusedSimpArgs false
attribute [local go_sem ↓] Go.wp_at_zero Go.wp_at_succ

theorem bud_mod (q j : Nat) : (q * 2 ^ j ^^^ 2 ^ j) % 2 ^ j = 0 := by
  rw [Nat.xor_mod_two_pow, Nat.mul_mod_left, Nat.mod_self]
  rfl
theorem bud_back (q j : Nat) : (q * 2 ^ j ^^^ 2 ^ j) / 2 ^ j * 2 ^ j ^^^ 2 ^ j = q * 2 ^ j := by
  have h := Nat.div_add_mod (q * 2 ^ j ^^^ 2 ^ j) (2 ^ j)
  rw [bud_mod, Nat.add_zero, Nat.mul_comm] at h
  rw [h, Nat.xor_assoc, Nat.xor_self, Nat.xor_zero]
theorem bud_ne (q j : Nat) : (q * 2 ^ j ^^^ 2 ^ j) ≠ q * 2 ^ j := by
  intro h
  have h2 : q * 2 ^ j ^^^ (q * 2 ^ j ^^^ 2 ^ j) = q * 2 ^ j ^^^ q * 2 ^ j := by rw [h]
  rw [← Nat.xor_assoc, Nat.xor_self, Nat.zero_xor] at h2
  have := pow_pos2 j
  omega
theorem bud_up (q j : Nat) : (q * 2 ^ j ^^^ 2 ^ j) / (2 * 2 ^ j) = q / 2 := by
  rw [show 2 * 2 ^ j = 2 ^ (j + 1) by rw [Nat.pow_succ]; omega, Nat.xor_div_two_pow]
  rw [Nat.div_eq_of_lt (show 2 ^ j < 2 ^ (j + 1) by rw [Nat.pow_succ]; have := pow_pos2 j; omega), Nat.xor_zero, Nat.pow_succ, ← Nat.div_div_eq_div_mul, Nat.mul_div_cancel _ (pow_pos2 j)]
theorem bud_lt {s n k : Nat} (hs : s < 2 ^ n) (h1 : 1 ≤ k) (hk : k ≤ n) : (s / 2 ^ (n - k) * 2 ^ (n - k) ^^^ 2 ^ (n - k)) < 2 ^ n :=
  Nat.xor_lt_two_pow (Nat.lt_of_le_of_lt (Nat.div_mul_le_self s _) hs) (Nat.pow_lt_pow_right (by omega) (by omega))



theorem small_wrap {n : Nat} (h : n ≤ 512) : wrap64 (n : Int) = (n : Int) ∧ IntKind.i64.wrap (n : Int) = (n : Int) := ⟨by simp only [wrap64]; omega, IntWalk.i64_in _ (by omega)⟩
def BudC (s k D x E : Int) : Prop := ∀ w : World, Calls Try.prog 26 #[.int .i64 s, .int .i64 k, .int .i64 D] w fun e w' => e = .returned (.tuple #[.int .i64 x, .int .i64 E]) ∧ Below w.heap.size w w'
def BudN (s k D : Int) : Prop := ∀ w : World, Calls Try.prog 26 #[.int .i64 s, .int .i64 k, .int .i64 D] w fun e w' => e = .returned (.tuple #[.int .i64 0, .int .i64 2]) ∧ w = w'

set_option maxHeartbeats 4000000 in
set_option maxRecDepth 100000 in
theorem bud_walk (x y z u n v k s j m N a q b M r : Nat) (w : World)
    (HB1 : Hid (BudC s k n a 0)) (HB2 : Hid (BudC a k n b 0)) (HB3 : Hid (BudN s 0 n)) (HB4 : Hid (BudN s ((n : Int) + 1) n)) (HB5 : Hid (BudN N k n))
    (e1 : (x : Int) % 8 = (u : Int)) (e2 : (1 : Int) + (u : Int) = (n : Int)) (e3 : (y : Int) % (n : Int) = (v : Int)) (e4 : (1 : Int) + (v : Int) = (k : Int))
    (sh : wrap64 ((2 : Int) ^ n) = (N : Int)) (sh2 : wrap64 ((2 : Int) ^ j) = (m : Int)) (e5 : (n : Int) - (k : Int) = (j : Int)) (e6 : (z : Int) % (N : Int) = (s : Int)) (e7 : (s : Int) / (m : Int) = (q : Int)) (e8 : (q : Int) * (m : Int) = (b : Int)) (e9 : (a : Int) % (m : Int) = 0)
    (ea : (2 : Int) * (m : Int) = (M : Int)) (eb : (a : Int) / (M : Int) = (r : Int)) (ec : (s : Int) / (M : Int) = (r : Int)) (ed : ((a : Int) == (b : Int)) = false)
    (lx : x < 256) (ly : y < 256) (lz : z < 256) (ln : n ≤ 8) (lk : k ≤ 8) (lj : j ≤ 8) (lN : N ≤ 256) (lm : m ≤ 256) (lM : M ≤ 512) (lq : q ≤ 256) (lb : b ≤ 256) (la : a ≤ 256) (lr : r ≤ 256) (ls : s ≤ 256)
    (m0 : ¬ m = 0) (M0 : ¬ M = 0) (N0 : ¬ N = 0) (n0 : ¬ n = 0) :
    Calls Try.prog 7 #[.int .u8 (x : Int), .int .u8 (y : Int), .int .u8 (z : Int)] w fun e w' => e = .returned (.bool true) ∧ Below w.heap.size w w' := by
  have wq := (small_wrap (Nat.le_trans lq (by decide))).1
  have wq2 := (small_wrap (Nat.le_trans lq (by decide))).2
  have wb := (small_wrap (Nat.le_trans lb (by decide))).1
  have wb2 := (small_wrap (Nat.le_trans lb (by decide))).2
  have wM := (small_wrap lM).1
  have wM2 := (small_wrap lM).2
  have wr := (small_wrap (Nat.le_trans lr (by decide))).1
  have wr2 := (small_wrap (Nat.le_trans lr (by decide))).2
  have wn := (small_wrap (n := n + 1) (Nat.le_trans (Nat.succ_le_succ ln) (by decide))).2
  go_enter Try.func7, Try.ntmps7
  go_wp2_with fail
  refine (HB1.out _).mono ?_
  rintro e w1 ⟨rfl, hb⟩
  have B1 := Lib.hid hb; clear hb
  go_wp2_with fail
  refine (HB2.out _).mono ?_
  rintro e w2 ⟨rfl, hb⟩
  have B2 := Lib.hid (B1.out.trans (hb.mono B1.out.size)); clear hb
  go_upto_region 7 with fail
  go_quiet (fail)
  go_wp2_with fail
  refine (HB3.out _).mono ?_
  rintro e w' ⟨rfl, rfl⟩
  go_wp2_with fail
  refine (HB4.out _).mono ?_
  rintro e w' ⟨rfl, rfl⟩
  go_wp2_with fail
  refine (HB5.out _).mono ?_
  rintro e w' ⟨rfl, rfl⟩
  go_wp2_with fail
  refine (awake_any _).mono ?_
  rintro e w5 ⟨rfl, hb⟩
  have B5 := Lib.hid ((below_dN B2.out _).trans (hb.mono B2.out.size)); clear hb
  go_wp2_with fail
  go_ret
  exact ⟨rfl, B5.out⟩

theorem bud_N {s k D : Int} (h : ¬ BuddyOk s k D) : BudN s k D := fun w => buddy_bad s k D w h

theorem lawBuddy (B C E : UInt8) (w : World) :
    Calls Try.prog 7 #[.int .u8 (B.toNat : Int), .int .u8 (C.toNat : Int), .int .u8 (E.toNat : Int)] w fun e w' => e = .returned (.bool true) ∧ Below w.heap.size w w' := by
  have lB := UInt8.toNat_lt B
  have lC := UInt8.toNat_lt C
  have lE := UInt8.toNat_lt E
  generalize B.toNat = x at *
  generalize C.toNat = y at *
  generalize E.toNat = z at *
  obtain ⟨u, hu⟩ : ∃ u, u = x % 8 := ⟨_, rfl⟩
  obtain ⟨n, hn⟩ : ∃ n, n = 1 + u := ⟨_, rfl⟩
  have n8 : n ≤ 8 := by omega
  have n1 : 1 ≤ n := by omega
  obtain ⟨v, hv⟩ : ∃ v, v = y % n := ⟨_, rfl⟩
  have vn : v < n := by rw [hv]; exact Nat.mod_lt _ n1
  obtain ⟨k, hk⟩ : ∃ k, k = 1 + v := ⟨_, rfl⟩
  have kn : k ≤ n := by omega
  have k1 : 1 ≤ k := by omega
  obtain ⟨s, hs⟩ : ∃ s, s = z % 2 ^ n := ⟨_, rfl⟩
  have sn : s < 2 ^ n := by rw [hs]; exact Nat.mod_lt _ (pow_pos2 n)
  have hN8 := pow8 n8
  obtain ⟨j, hj⟩ : ∃ j, j = n - k := ⟨_, rfl⟩
  have hj8 : j ≤ 8 := by omega
  have hm8 := pow_le8 hj8
  have e1 : (x : Int) % 8 = (u : Int) := by omega
  have e3 : (y : Int) % (n : Int) = (v : Int) := by rw [hv]; rfl
  have e6 : (z : Int) % ((2 ^ n : Nat) : Int) = (s : Int) := by rw [hs]; rfl
  have p5 := bud_lt sn k1 kn
  have b1 : BudC s k n ((s / 2 ^ j * 2 ^ j ^^^ 2 ^ j : Nat) : Int) 0 := fun w => by rw [hj]; exact buddy_ok s k n w k1 kn n8 sn
  have b2 : BudC ((s / 2 ^ j * 2 ^ j ^^^ 2 ^ j : Nat) : Int) k n ((s / 2 ^ j * 2 ^ j : Nat) : Int) 0 := fun w => by
    have h := buddy_ok (s / 2 ^ j * 2 ^ j ^^^ 2 ^ j) k n w k1 kn n8 (by rw [hj]; exact p5)
    rw [← hj, bud_back] at h
    exact h
  rw [← hj] at p5
  have p7 : s / 2 ^ j * 2 ^ j ≤ s := Nat.div_mul_le_self s _
  have p8 : s / 2 ^ j ≤ s := Nat.div_le_self s _
  have s9 : s ≤ 256 := by omega
  exact bud_walk x y z u n v k s j (2 ^ j) (2 ^ n) (s / 2 ^ j * 2 ^ j ^^^ 2 ^ j) (s / 2 ^ j) (s / 2 ^ j * 2 ^ j) (2 * 2 ^ j) (s / 2 ^ j / 2) w
    (Lib.hid b1) (Lib.hid b2) (Lib.hid (bud_N (by unfold BuddyOk; omega))) (Lib.hid (bud_N (by unfold BuddyOk; omega)))
    (Lib.hid (bud_N (fun h => absurd h.2.2.2.2.2 (by rw [show ((n : Int)).toNat = n from rfl]; exact Int.lt_irrefl _))))
    e1 (by rw [hn]; rfl) e3 (by rw [hk]; rfl) (shl1 n8) (shl1 hj8) (by rw [hj]; omega) e6 rfl rfl
    (by rw [show (((s / 2 ^ j * 2 ^ j ^^^ 2 ^ j : Nat) : Int)) % ((2 ^ j : Nat) : Int) = (((s / 2 ^ j * 2 ^ j ^^^ 2 ^ j) % 2 ^ j : Nat) : Int) from rfl, bud_mod]; rfl)
    rfl
    (by rw [show (((s / 2 ^ j * 2 ^ j ^^^ 2 ^ j : Nat) : Int)) / ((2 * 2 ^ j : Nat) : Int) = (((s / 2 ^ j * 2 ^ j ^^^ 2 ^ j) / (2 * 2 ^ j) : Nat) : Int) from rfl, bud_up])
    (by rw [show (s : Int) / ((2 * 2 ^ j : Nat) : Int) = ((s / (2 * 2 ^ j) : Nat) : Int) from rfl, Nat.mul_comm, Nat.div_div_eq_div_mul])
    (beq_eq_false_iff_ne.2 (fun h => bud_ne (s / 2 ^ j) j (Int.ofNat.inj h)))
    lB lC lE n8 (Nat.le_trans kn n8) hj8 hN8 hm8.2 (by omega) (Nat.le_trans p8 s9) (Nat.le_trans p7 s9) (Nat.le_trans (Nat.le_of_lt p5) hN8) (Nat.le_trans (Nat.div_le_self _ _) (Nat.le_trans p8 s9)) s9
    (Nat.ne_of_gt hm8.1) (by omega) (Nat.ne_of_gt (pow_pos2 n)) (by omega)

end Go.Proofs.Ytlkmcjjdjbdihaa
