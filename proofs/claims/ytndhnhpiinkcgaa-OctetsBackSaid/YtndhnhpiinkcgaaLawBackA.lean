/-
  OctetsBack: the walk.
-/
import Derived.Test.YtndhnhpiinkcgaaLawSums
import Derived.Deep.RegionHeld3
namespace Go.Proofs.Ytndhnhpiinkcgaa
open Go.RowKit
set_option linter.unusedVariables false

theorem back_out (A : Option Addr) (n c : Nat) (at_ size N : Int) (w : World) (hn : n ≤ maxLen) (h : 300 < n) :
    Calls Try.prog 4 #[.slice A n c, .int .i64 at_, .int .i64 size, .int .u64 N] w fun e w' => e = .returned (.bool true) ∧ Below w.heap.size w w' := by
  unfold maxLen at hn
  go_enter Try.func4, Try.ntmps4
  go_wp2_with (go_at_call 9; refine (awake_any _).mono ?_; rintro e w' ⟨rfl, hb⟩)
  go_ret
  exact ⟨rfl, hb⟩

set_option maxHeartbeats 2000000 in
set_option maxRecDepth 100000 in
/-- The places are not all there. -/
theorem back_small (A : Option Addr) (n c : Nat) (at_ size : Int) (N : Nat) (l : List UInt8) (w : World) (h : Reads8 w A n l) (h300 : n ≤ 300) (hs0 : -9223372036854775808 ≤ size) (hs1 : size ≤ 9223372036854775807) (ha0 : -9223372036854775808 ≤ at_) (ha1 : at_ ≤ 9223372036854775807)
    (hno : ¬ (1 ≤ size ∧ size ≤ 8 ∧ 0 ≤ at_ ∧ at_ ≤ n - size)) :
    Calls Try.prog 4 #[.slice A n c, .int .i64 at_, .int .i64 size, .int .u64 (N : Int)] w fun e w' => e = .returned (.bool true) ∧ Below w.heap.size w w' := by
  have hl := Lib.hid h.1
  have HR := Lib.hid h; clear h
  have HNO := Lib.hid hno; clear hno
  go_enter Try.func4, Try.ntmps4
  go_wp2_with fail
  refine (again_any A n c l _ HR.out (by simp only [maxLen]; omega)).mono ?_
  rintro e w1 ⟨v, rfl, hF⟩
  obtain ⟨g, d, rfl, hg, hd, hdm, hM, hB⟩ := hF.open_ hl.out
  have M1 := Lib.hid hM
  have B1 := Lib.hid hB
  have R1 := Lib.hid (HR.out.keep hB)
  clear hM hB hF HR
  go_wp2_with fail
  refine (put_small _ n d at_ size N _ (by simp only [maxLen]; omega) HNO.out).mono ?_
  rintro e w' ⟨rfl, rfl⟩
  go_wp2_with fail
  all_goals first
    | (exfalso; have h0 := HNO.out; omega)
    | (refine (equal_any _ _ n n d c l l _ M1.out.reads R1.out).mono ?_
       rintro e w' ⟨rfl, rfl⟩
       rw [show same8 l l = true from same8_iff.2 rfl]
       go_wp2_with fail
       refine (awake_any _).mono ?_
       rintro e w' ⟨rfl, hb⟩
       have B2 := Lib.hid (B1.out.trans (hb.mono B1.out.size)); clear hb
       go_wp2_with fail
       go_ret
       exact ⟨rfl, B2.out⟩)

set_option maxHeartbeats 2000000 in
set_option maxRecDepth 100000 in
/-- The number has more bytes. -/
theorem back_great (A : Option Addr) (n c : Nat) (at_ s N : Nat) (l : List UInt8) (w : World) (h : Reads8 w A n l) (h300 : n ≤ 300) (hs1 : 1 ≤ s) (hs8 : s ≤ 8) (hfit : at_ + s ≤ n) (hN : ¬ N < 256 ^ s) (hN64 : N < 18446744073709551616) :
    Calls Try.prog 4 #[.slice A n c, .int .i64 (at_ : Int), .int .i64 (s : Int), .int .u64 (N : Int)] w fun e w' => e = .returned (.bool true) ∧ Below w.heap.size w w' := by
  have hl := Lib.hid h.1
  have HR := Lib.hid h; clear h
  have HN := Lib.hid hN; clear hN
  have HN64 := Lib.hid hN64; clear hN64
  have h7 : s ≠ 8 := by
    intro e
    subst e
    exact HN.out HN64.out
  have h7' : ((s : Int) == 8) = false := by simp; omega
  have hpw : (2 : Int) ^ (8 * s) = ((256 ^ s : Nat) : Int) := by rw [Int.pow_mul]; simp
  have hlt7 : 256 ^ s ≤ 256 ^ 7 := Nat.pow_le_pow_right (by omega) (by omega)
  have hq : decide ((N : Int) < IntKind.u64.wrap (2 ^ (8 * s))) = false := by
    rw [hpw, IntKind.wrap_u64']
    have h1 := HN.out
    have h256 : (256 : Nat) ^ 7 = 72057594037927936 := rfl
    rw [h256] at hlt7
    generalize 256 ^ s = X at h1 hlt7 ⊢
    exact decide_eq_false (by omega)
  clear hpw hlt7 h7
  go_enter Try.func4, Try.ntmps4
  go_wp2_with fail
  refine (again_any A n c l _ HR.out (by simp only [maxLen]; omega)).mono ?_
  rintro e w1 ⟨v, rfl, hF⟩
  obtain ⟨g, d, rfl, hg, hd, hdm, hM, hB⟩ := hF.open_ hl.out
  have M1 := Lib.hid hM
  have B1 := Lib.hid hB
  have R1 := Lib.hid (HR.out.keep hB)
  clear hM hB hF HR
  go_wp2_with fail
  refine (put_great _ n d at_ s N _ (by simp only [maxLen]; omega) (by omega) (by omega) (by omega) HN.out HN64.out).mono ?_
  rintro e w' ⟨rfl, rfl⟩
  go_wp2_with fail
  refine (equal_any _ _ n n d c l l _ M1.out.reads R1.out).mono ?_
  rintro e w' ⟨rfl, rfl⟩
  rw [show same8 l l = true from same8_iff.2 rfl]
  go_wp2_with fail
  refine (awake_any _).mono ?_
  rintro e w' ⟨rfl, hb⟩
  have B2 := Lib.hid (B1.out.trans (hb.mono B1.out.size)); clear hb
  go_wp2_with fail
  go_ret
  exact ⟨rfl, B2.out⟩

theorem reads_heap {w W : World} {A : Option Addr} {n : Nat} {l : List UInt8} (h : Reads8 w A n l) (e : W.heap = w.heap) : Reads8 W A n l := by
  refine ⟨h.1, fun hn => ?_⟩
  obtain ⟨b, o, hA, hlt, hc⟩ := h.2 hn
  exact ⟨b, o, hA, by rw [e]; exact hlt, fun j hj => (World.cell?_of_block (w := w) (by rw [e])).trans (hc j hj)⟩


end Go.Proofs.Ytndhnhpiinkcgaa
