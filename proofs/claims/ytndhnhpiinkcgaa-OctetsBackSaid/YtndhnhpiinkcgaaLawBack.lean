/-
  OctetsBack: the walk, all ways.
-/
import Derived.Test.YtndhnhpiinkcgaaLawBackB8
import Derived.Test.YtndhnhpiinkcgaaLawBackB7
namespace Go.Proofs.Ytndhnhpiinkcgaa
open Go.RowKit
set_option linter.unusedVariables false

theorem bounds_u64' {n : Int} (h : (Lit.int .u64 n).wf = true) : 0 ≤ n ∧ n ≤ 18446744073709551615 := by
  simp [Lit.wf, IntKind.min, IntKind.max, IntKind.signed, IntKind.bits] at h
  omega

theorem lawBack (A : Option Addr) (n c : Nat) (at_ size N : Int) (l : List UInt8) (w : World) (h : Reads8 w A n l) (hnc : n ≤ c) (hcm : c ≤ maxLen) (ha : (Lit.int .i64 at_).wf = true) (hs : (Lit.int .i64 size).wf = true) (hN : (Lit.int .u64 N).wf = true) :
    Calls Try.prog 4 #[.slice A n c, .int .i64 at_, .int .i64 size, .int .u64 N] w fun e w' => e = .returned (.bool true) ∧ Below w.heap.size w w' := by
  have h1 := bounds_i64 ha
  have h2 := bounds_i64 hs
  have h3 := bounds_u64' hN
  obtain ⟨M, rfl⟩ : ∃ M : Nat, N = (M : Int) := ⟨N.toNat, by omega⟩
  by_cases h0 : 300 < n
  · exact back_out A n c at_ size _ w (Nat.le_trans hnc hcm) h0
  by_cases hno : 1 ≤ size ∧ size ≤ 8 ∧ 0 ≤ at_ ∧ at_ ≤ n - size
  · obtain ⟨s, rfl⟩ : ∃ s : Nat, size = (s : Int) := ⟨size.toNat, by omega⟩
    obtain ⟨k, rfl⟩ : ∃ k : Nat, at_ = (k : Int) := ⟨at_.toNat, by omega⟩
    by_cases hM : M < 256 ^ s
    · obtain ⟨b, o, rfl, _⟩ := h.2 (by omega)
      cases hq8 : ((s : Int) == 8)
      · by_cases hca : c = k + s
        · exact back_fits_7e b o n c k s M l w h hnc hcm (by omega) (by omega) (by omega) (by omega) hM hq8 hca
        · exact back_fits_7n b o n c k s M l w h hnc hcm (by omega) (by omega) (by omega) (by omega) hM hq8 hca
      · by_cases hca : c = k + s
        · exact back_fits_8e b o n c k s M l w h hnc hcm (by omega) (by omega) (by omega) (by omega) hM hq8 hca
        · exact back_fits_8n b o n c k s M l w h hnc hcm (by omega) (by omega) (by omega) (by omega) hM hq8 hca
    · exact back_great A n c k s M l w h (by omega) (by omega) (by omega) (by omega) hM (by omega)
  · exact back_small A n c at_ size M l w h (by omega) h2.1 h2.2 h1.1 h1.2 hno

end Go.Proofs.Ytndhnhpiinkcgaa
