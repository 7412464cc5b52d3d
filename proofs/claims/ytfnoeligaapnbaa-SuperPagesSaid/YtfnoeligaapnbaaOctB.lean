/-
  Writing bytes: octets.Put; catchmentlow.Equal, Again.
-/
import Derived.Test.YtfnoeligaapnbaaOcA
import Derived.Laws.BytesString
import Derived.Laws.IdiomStrings
namespace Go.Proofs.Ytfnoeligaapnbaa
open Go.RowKit
set_option linter.unusedVariables false

theorem Addr.add_lit' (b o j : Nat) : (⟨b, o, none⟩ : Addr).add j = ⟨b, o + j, none⟩ := by unfold Addr.add; split <;> simp_all

/-- 'string(b)'. -/
theorem conv8 (A : Option Addr) (n c : Nat) (l : List UInt8) (w : World) (h : Reads8 w A n l) :
    (convert 28 9 (.slice A n c)).run Try.prog w = .ok (.string ⟨l.toArray⟩) w := by
  obtain ⟨hl, hc⟩ := h
  subst hl
  rcases Nat.eq_zero_or_pos l.length with h0 | h0
  · have e : l = [] := List.eq_nil_of_length_eq_zero h0
    subst e
    rw [run_convert_bytes_string w 28 9 5 A _ c Try.underlying28 Try.underlying5 Try.underlying9]
    cases A <;> simp [Conv.bytesToString, loadCells]
    all_goals rfl
  · obtain ⟨b, o, rfl, _, hcell⟩ := hc h0
    exact run_convert_bytes_back w _ _ _ _ c l Try.underlying28 Try.underlying5 Try.underlying9 (fun j hj => by rw [Addr.add_lit']; exact hcell j hj)

def same8 (a b : List UInt8) : Bool := a == b

theorem equal_any (A B : Option Addr) (n m c d : Nat) (l k : List UInt8) (w : World) (h : Reads8 w A n l) (g : Reads8 w B m k) :
    Calls Try.prog 18 #[.slice A n c, .slice B m d] w fun e w' => e = .returned (.bool (same8 l k)) ∧ w = w' := by
  have h1 := conv8 A n c l w h
  have h2 := conv8 B m d k w g
  clear h g
  go_enter Try.func18, Try.ntmps18
  go_wp2
  go_ret
  exact ⟨rfl, rfl⟩

theorem same8_iff {a b : List UInt8} : same8 a b = true ↔ a = b := by unfold same8; simp

theorem bytesRow_get (l : List UInt8) (cap j : Nat) (h : j < l.length) : (bytesRow ⟨l.toArray⟩ cap)[j]? = some (.int .u8 (l[j].toNat : Int)) := by
  unfold bytesRow
  rw [Array.getElem?_append_left (by simpa using h)]
  simp [h]

set_option maxHeartbeats 400000 in
theorem again_any (A : Option Addr) (n c : Nat) (l : List UInt8) (w : World) (h : Reads8 w A n l) (hn : n ≤ maxLen) :
    Calls Try.prog 11 #[.slice A n c] w fun e w' => ∃ v, e = .returned v ∧ Fresh8 w w' v l := by
  have h1 := conv8 A n c l w h
  have h2 := fun w s => run_bytes_of_string (P := Try.prog) w 9 28 5 s Try.underlying9 Try.underlying28 Try.underlying5
  go_enter Try.func11, Try.ntmps11
  have hcm := grownCap_le_maxLen w l.length 0 5 (by have := h.1; omega)
  have hcg := grownCap_ge w l.length 0 5
  go_wp2
  go_ret
  refine ⟨_, rfl, w.heap.size, _, rfl, Nat.le_refl _, hcg, hcm, ?_, ?_⟩
  · refine Mem8.drew (Mem8.of_blk (heap_alloc_new w _) rfl (fun j hj => ?_) (.inl ?_))
    · rw [Nat.zero_add]; exact bytesRow_get l _ j hj
    · simp [bytesRow]
  · exact ((Below.refl _ _).alloc (Nat.le_refl _) _).drew

theorem put_small (A : Option Addr) (n c : Nat) (at_ size : Int) (N : Nat) (w : World) (hn : n ≤ maxLen) (h : ¬ (1 ≤ size ∧ size ≤ 8 ∧ 0 ≤ at_ ∧ at_ ≤ n - size)) :
    Calls Try.prog 26 #[.slice A n c, .int .i64 at_, .int .i64 size, .int .u64 (N : Int)] w fun e w' => e = .returned (.bool false) ∧ w = w' := by
  unfold maxLen at hn
  have H := Lib.hid h; clear h
  go_enter Try.func26, Try.ntmps26
  go_wp2_with (go_at_call 44; refine (within_no _ _ _ _ (by omega) (by omega) H.out).mono ?_; rintro e w' ⟨rfl, rfl⟩)
  go_ret
  exact ⟨rfl, rfl⟩

set_option maxHeartbeats 400000 in
theorem put_yes (b o n c : Nat) (l : List UInt8) (at_ size N : Nat) (w : World) (h : Mem8 w b o n l) (hn : n ≤ maxLen) (hnc : n ≤ c) (h1 : 1 ≤ size) (h2 : size ≤ 8) (h4 : at_ + size ≤ n) (hN : N < 256 ^ size) :
    Calls Try.prog 26 #[.slice (some ⟨b, o, none⟩) n c, .int .i64 (at_ : Int), .int .i64 (size : Int), .int .u64 (N : Int)] w fun e w' => e = .returned (.bool true) ∧ Wrote w w' b (o + at_) (o + at_ + size) ∧ Mem8 w' b (o + at_) size (be N size) := by
  unfold maxLen at hn
  have hl := h.len
  have hq0 : N / 2 ^ (8 * size) = 0 := by rw [Nat.pow_mul]; exact Nat.div_eq_of_lt hN
  have hq : decide ((0 : Int) < (N : Int) / 2 ^ (8 * size)) = false := by
    have : (N : Int) / 2 ^ (8 * size) = ((N / 2 ^ (8 * size) : Nat) : Int) := by simp
    rw [this, hq0]; rfl
  clear hq0
  have HM := Lib.hid h; clear h
  have HN := Lib.hid hN; clear hN
  have HL := Lib.hid hl; clear hl
  by_cases h8 : size < 8
  all_goals
    go_enter Try.func26, Try.ntmps26
    go_wp2_with (go_at_call 44; refine (within_yes _ _ _ _ (by omega) (by omega) (by omega) (by omega) (by omega)).mono ?_; rintro e w' ⟨rfl, rfl⟩)
    clear hq
    go_loopw [28] (fun i wr => ∃ k : Nat, k ≤ size ∧ i = .int .i64 k ∧ Wrote w wr b (o + (at_ + size - k)) (o + at_ + size) ∧ (∀ j, j < k → wr.cell? ⟨b, o + (at_ + size - 1 - j), none⟩ = some (.int .u8 ((UInt8.ofNat (N / 256 ^ j)).toNat : Int)))) (fun i _ => size - (intOf i).toNat)
    case atStart => exact ⟨0, Nat.zero_le _, rfl, Wrote.refl _ _ _ _, fun j hj => absurd hj (Nat.not_lt_zero _)⟩
    case round =>
      obtain ⟨k, hk, rfl, hwr, hdone⟩ := hrel
      have HW := Lib.hid hwr; clear hwr
      have HD := Lib.hid hdone; clear hdone
      by_cases hlt : k < size
      · have hf : wr.frozen? ⟨b, o + (at_ + size - 1 - k), none⟩ = false := by
          rw [HW.out.frz]; exact HM.out.free _ (by have := HL.out; omega)
        have hc : wr.cell? ⟨b, o + (at_ + size - 1 - k), none⟩ = some (.int .u8 ((l[at_ + size - 1 - k]'(by have := HL.out; omega)).toNat : Int)) := by
          rw [HW.out.cell _ (by omega)]; exact HM.out.cell _ (by have := HL.out; omega)
        go_wp2
        go_roundw
        case rel =>
          refine ⟨k + 1, by omega, by go_num, ?_, ?_⟩
          · exact (HW.out.mono (by omega) (by omega)).trans ((Wrote.set _ _ _ _).mono (by omega) (by omega))
          · intro j hj
            rw [byte_of]
            by_cases e : j = k
            · subst e
              exact World.cell?_setCell_same' _ _ _ (by rw [hc]; rfl)
            · rw [World.cell?_setCell_other wr ⟨b, o + (at_ + size - 1 - k), none⟩ ⟨b, o + (at_ + size - 1 - j), none⟩ _ (fun e => by injection e with _ e2; omega)]
              exact HD.out j (by omega)
        case measure => simp [intOf]; omega
      · go_wp2
        go_ret
        have hks : k = size := by omega
        subst hks
        refine ⟨rfl, HW.out.mono (by omega) (by omega), be_length _ _, by rw [HW.out.size]; exact HM.out.lt, fun j hj => ?_, fun j hj => ?_⟩
        · rw [be_length] at hj
          have := HD.out (k - 1 - j) (by omega)
          rw [show at_ + k - 1 - (k - 1 - j) = at_ + j by omega, ← Nat.add_assoc] at this
          rw [this]
          have g := be_get N k (k - 1 - j) (by omega)
          rw [show k - 1 - (k - 1 - j) = j by omega, List.getElem?_eq_getElem (by rw [be_length]; omega)] at g
          injection g with g
          rw [g]
        · rw [be_length] at hj
          rw [HW.out.frz, Nat.add_assoc]
          exact HM.out.free _ (by have := HL.out; omega)

/-- What is written stands in the whole. -/
theorem put_yes' (b o n c : Nat) (l : List UInt8) (at_ size N : Nat) (w : World) (h : Mem8 w b o n l) (hn : n ≤ maxLen) (hnc : n ≤ c) (h1 : 1 ≤ size) (h2 : size ≤ 8) (h4 : at_ + size ≤ n) (hN : N < 256 ^ size) :
    Calls Try.prog 26 #[.slice (some ⟨b, o, none⟩) n c, .int .i64 (at_ : Int), .int .i64 (size : Int), .int .u64 (N : Int)] w fun e w' => e = .returned (.bool true) ∧ Wrote w w' b (o + at_) (o + at_ + size) ∧ Mem8 w' b o n (l.take at_ ++ be N size ++ l.drop (at_ + size)) :=
  (put_yes b o n c l at_ size N w h hn hnc h1 h2 h4 hN).mono fun e w' ⟨he, hw, hm⟩ => ⟨he, hw, hw.splice h hm h4⟩

/-- A number that has more bytes is not put. -/
theorem put_great (A : Option Addr) (n c : Nat) (at_ size N : Nat) (w : World) (hn : n ≤ maxLen) (h1 : 1 ≤ size) (h2 : size ≤ 8) (h4 : at_ + size ≤ n) (hN : ¬ N < 256 ^ size) (hN64 : N < 18446744073709551616) :
    Calls Try.prog 26 #[.slice A n c, .int .i64 (at_ : Int), .int .i64 (size : Int), .int .u64 (N : Int)] w fun e w' => e = .returned (.bool false) ∧ w = w' := by
  unfold maxLen at hn
  have h8 : size < 8 := by
    rcases Nat.lt_or_ge size 8 with h | h
    · exact h
    · have e : size = 8 := by omega
      subst e
      exact absurd hN64 hN
  have hq0 : 0 < N / 2 ^ (8 * size) := by rw [Nat.pow_mul, show (2 : Nat) ^ 8 = 256 from rfl]; exact Nat.div_pos (by omega) (Nat.pow_pos (by omega))
  have hq : decide ((0 : Int) < (N : Int) / 2 ^ (8 * size)) = true := by
    have : (N : Int) / 2 ^ (8 * size) = ((N / 2 ^ (8 * size) : Nat) : Int) := by simp
    rw [this]; exact decide_eq_true (Int.ofNat_lt.2 hq0)
  clear hq0 hN hN64
  go_enter Try.func26, Try.ntmps26
  go_wp2_with (go_at_call 44; refine (within_yes _ _ _ _ (by omega) (by omega) (by omega) (by omega) (by omega)).mono ?_; rintro e w' ⟨rfl, rfl⟩)
  go_ret
  exact ⟨rfl, rfl⟩
end Go.Proofs.Ytfnoeligaapnbaa
