/-
  The walks of the laws of layer 1 that do not ask the document's answer.
-/
import Derived.Test.YtndhnhpiinkcgaaOctAwake
import Derived.OpenShut
namespace Go.Proofs.Ytndhnhpiinkcgaa
open Go.RowKit
set_option linter.unusedVariables false

/-- What a slice of bytes that came in reads as. -/
theorem rd8_of_row {w : World} {a : Option Addr} {len cap : Nat} {zs : List Int}
    (h : (a = none ∧ len = 0 ∧ cap = 0 ∧ zs = []) ∨ ∃ x, a = some x ∧ len ≤ cap ∧ cap ≤ maxLen ∧ zs.length = cap ∧ (∀ i, i < zs.length → w.cell? (x.add i) = some (.int .u8 (zs.getD i 0))) ∧ ∀ n ∈ zs, (Lit.int .u8 n).wf = true) :
    ∃ l, Reads8 w a len l ∧ len ≤ cap ∧ cap ≤ maxLen := by
  rcases h with ⟨rfl, rfl, rfl, rfl⟩ | ⟨x, rfl, hl, hm, hz, hc, hw⟩
  · exact ⟨[], Reads8.nil _ _, Nat.le_refl _, Nat.zero_le _⟩
  · refine ⟨(zs.take len).map (fun n => UInt8.ofNat n.toNat), ⟨by simp; omega, fun h0 => ?_⟩, hl, hm⟩
    obtain ⟨b, o, spot⟩ := x
    have h0' := hc 0 (by omega)
    have hspot : spot = none := by simpa [Addr.add] using World.cell?_spot h0'
    subst hspot
    refine ⟨b, o, rfl, ?_, fun j hj => ?_⟩
    · have := World.block_lt_of_cell? w _ h0'
      simpa [Addr.add] using this
    · have hj' : j < len := by simp at hj; omega
      have h1 := hc j (by omega)
      rw [Addr.add_lit'] at h1
      rw [h1]
      have h2 : zs.getD j 0 = zs[j]'(by omega) := by simp [List.getD, show j < zs.length by omega]
      have h3 := hw (zs[j]'(by omega)) (List.getElem_mem _)
      have h4 := bounds_u8 h3
      rw [h2]
      simp only [List.getElem_map, List.getElem_take]
      congr 2
      simp
      omega

theorem IntKind.wrap_u64' (n : Int) : IntKind.u64.wrap n = n % 18446744073709551616 := by simp [IntKind.wrap, IntKind.bits, IntKind.signed]

set_option maxHeartbeats 1000000 in
theorem lawParts (A : Option Addr) (n c : Nat) (l : List UInt8) (cut : Int) (w : World) (h : Reads8 w A n l) (hnc : n ≤ c) (hcm : c ≤ maxLen) (hc0 : 0 ≤ cut) (hc1 : cut ≤ 255) :
    Calls Try.prog 5 #[.slice A n c, .int .u8 cut] w fun e w' => e = .returned (.bool true) ∧ Below w.heap.size w w' := by
  unfold maxLen at hcm
  by_cases h2 : n < 2
  · go_enter Try.func5, Try.ntmps5
    go_wp2_with (go_at_call 9; refine (awake_any _).mono ?_; rintro e w' ⟨rfl, hb⟩)
    go_ret
    exact ⟨rfl, hb⟩
  by_cases h8 : 8 < n
  · go_enter Try.func5, Try.ntmps5
    go_wp2_with (go_at_call 9; refine (awake_any _).mono ?_; rintro e w' ⟨rfl, hb⟩)
    go_ret
    exact ⟨rfl, hb⟩
  obtain ⟨b, o, rfl, hb, _⟩ := h.2 (by omega)
  have hl := Lib.hid h.1
  have HR := Lib.hid h; clear h
  obtain ⟨k, hk⟩ : ∃ k : Nat, 1 + cut % ((n : Int) - 1) = (k : Int) := ⟨(1 + cut % ((n : Int) - 1)).toNat, by
    have := Int.emod_nonneg cut (show ((n : Int) - 1) ≠ 0 by omega)
    omega⟩
  have hk1 : 1 ≤ k := by have := Int.emod_nonneg cut (show ((n : Int) - 1) ≠ 0 by omega); omega
  have hk2 : k ≤ n - 1 := by have := Int.emod_lt_of_pos cut (show 0 < ((n : Int) - 1) by omega); omega
  have hpos : (1 : Int) ≤ (n : Int) - 1 := by omega
  have hm0 := Int.emod_nonneg cut (show ((n : Int) - 1) ≠ 0 by omega)
  have hm1 := Int.emod_lt_of_pos cut (show 0 < ((n : Int) - 1) by omega)
  have HK := Lib.hid hk; clear hk
  have e1 : num8 ((l.drop 0).take n) = num8 ((l.drop 0).take k) * 256 ^ (n - k) + num8 ((l.drop k).take (n - k)) := by
    have hlen := hl.out
    have f1 : l.take n = l := List.take_of_length_le (by omega)
    have f2 : (l.drop k).take (n - k) = l.drop k := List.take_of_length_le (by simp; omega)
    rw [List.drop_zero, f1, f2]
    have := num8_append (l.take k) (l.drop k)
    rw [List.take_append_drop, List.length_drop, hlen] at this
    exact this
  have hlt : num8 ((l.drop 0).take n) < 256 ^ 8 := num8_lt_of (by simp; omega)
  have hq : ((num8 ((l.drop 0).take n) : Int) == IntKind.u64.wrap (IntKind.u64.wrap ((num8 ((l.drop 0).take k) : Int) * 2 ^ (8 * (n - k))) + (num8 ((l.drop k).take (n - k)) : Int))) = true := by
    have h64 : (256 : Nat) ^ 8 = 18446744073709551616 := rfl
    rw [h64] at hlt
    have hp : (2 : Int) ^ (8 * (n - k)) = ((256 ^ (n - k) : Nat) : Int) := by
      rw [Int.pow_mul]; simp
    rw [hp, e1, ← Int.natCast_mul]
    rw [e1] at hlt
    generalize num8 ((l.drop 0).take k) * 256 ^ (n - k) = X at *
    generalize num8 ((l.drop k).take (n - k)) = Y at *
    rw [IntKind.wrap_u64', IntKind.wrap_u64']
    simp
    omega
  clear e1 hlt
  go_enter Try.func5, Try.ntmps5
  go_wp2_with fail
  refine (get_yes b o n c l 0 n w HR.out (by simp only [maxLen]; omega) hnc (by omega) (by omega) (by omega)).mono ?_
  rintro e w' ⟨rfl, rfl⟩
  rw [HK.out]
  generalize num8 ((l.drop 0).take n) = a1 at *
  go_wp2_with fail
  refine (get_yes b o n c l 0 k w HR.out (by simp only [maxLen]; omega) hnc (by omega) (by omega) (by omega)).mono ?_
  rintro e w' ⟨rfl, rfl⟩
  generalize num8 ((l.drop 0).take k) = a2 at *
  go_wp2_with fail
  rw [show ((n : Int) - k) = ((n - k : Nat) : Int) by omega]
  refine (get_yes b o n c l k (n - k) w HR.out (by simp only [maxLen]; omega) hnc (by omega) (by omega) (by omega)).mono ?_
  rintro e w' ⟨rfl, rfl⟩
  generalize num8 ((l.drop k).take (n - k)) = a3 at *
  go_wp2_with (go_at_call 9; refine (awake_any _).mono ?_; rintro e w' ⟨rfl, hb⟩)
  go_ret
  exact ⟨rfl, hb⟩

end Go.Proofs.Ytndhnhpiinkcgaa
