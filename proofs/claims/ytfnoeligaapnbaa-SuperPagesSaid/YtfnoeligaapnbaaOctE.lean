/-
  octets.Open: what a page says.
-/
import Derived.Test.YtfnoeligaapnbaaOctD
import Derived.Deep.RegionHeld3
namespace Go.Proofs.Ytfnoeligaapnbaa
open Go.RowKit
set_option linter.unusedVariables false

theorem Fresh8.below {w w' : World} {v : Value} {l : List UInt8} (h : Fresh8 w w' v l) : Below w.heap.size w w' := by
  obtain ⟨_, _, _, _, _, _, _, hb⟩ := h
  exact hb
theorem Fresh8.keep {w w' : World} {v x : Value} {l : List UInt8} {b o : Nat} (h : Fresh8 w w' v l) (hc : w.cell? ⟨b, o, none⟩ = some x) : w'.cell? ⟨b, o, none⟩ = some x :=
  (h.below.cell (p := ⟨b, o, none⟩) (World.block_lt_of_cell? w _ hc)).trans hc
/-- It began a few draws, or a few steps, earlier. -/
theorem Fresh8.from {a w w' : World} {v : Value} {l : List UInt8} (h : Fresh8 w w' v l) (hb : Below a.heap.size a w) : Fresh8 a w' v l := by
  obtain ⟨g, c, rfl, hg, hn, hm, hM, hbb⟩ := h
  exact ⟨g, c, rfl, Nat.le_trans hb.size hg, hn, hm, hM, hb.trans (hbb.mono hb.size)⟩

set_option maxHeartbeats 400000 in
theorem open_yes (A : Option Addr) (n c : Nat) (l : List UInt8) (w : World) (h : Reads8 w A n l) (hnc : n ≤ c) (hp : isPage l = true) :
    Calls Try.prog 29 #[.slice A n c] w fun e w' => ∃ v, e = .returned (.tuple #[.int .u8 ((l.headD 0).toNat : Int), v, .int .i64 0]) ∧ Fresh8 w w' v ((l.drop 1).take 123) := by
  have hl := h.1
  unfold isPage at hp
  simp only [Bool.and_eq_true, decide_eq_true_eq] at hp
  obtain ⟨h128, hsum⟩ := hp
  obtain rfl : n = 128 := by omega
  obtain ⟨b, o, rfl, hb, hc⟩ := h.2 (by omega)
  have h124 : Reads8 w (some ⟨b, o, none⟩) 124 (l.take 124) := by
    have := h.sub 0 124 (by omega) (by omega)
    simpa using this
  have h4 : Reads8 w (some ⟨b, o + 124, none⟩) 4 (l.drop 124) := by
    have := h.sub 124 4 (by omega) (by omega)
    rwa [List.take_of_length_le (by simp; omega)] at this
  have h123 : Reads8 w (some ⟨b, o + 1, none⟩) 123 ((l.drop 1).take 123) := h.sub 1 123 (by omega) (by omega)
  have hc0 : w.cell? ⟨b, o, none⟩ = some (.int .u8 ((l.headD 0).toNat : Int)) := by
    have := hc 0 (by omega)
    rw [Nat.add_zero] at this
    rw [this]
    cases l with
    | nil => simp at h128
    | cons x l => rfl
  generalize hk : l.headD 0 = kd at *
  have H124 := Lib.hid h124; clear h124
  have H4 := Lib.hid h4; clear h4
  have H123 := Lib.hid h123; clear h123
  have Hsum := Lib.hid hsum; clear hsum
  clear h hc hl h128 hk
  go_enter Try.func29, Try.ntmps29
  go_wp2_with fail
  refine (parts_any _ _ _ _ (by omega)).mono ?_
  rintro e w' ⟨rfl, q, rfl⟩
  go_wp2_with fail
  refine (get_yes _ _ 4 4 _ 0 4 _ (H4.out.drewN q) (by simp only [maxLen]; omega) (by omega) (by omega) (by omega) (by omega)).mono ?_
  rintro e w' ⟨rfl, rfl⟩
  have e4 : num8 (((l.drop 124).drop 0).take 4) = sum8 (l.take 124) := by rw [List.drop_zero, List.take_of_length_le (by have := H4.out.1; omega)]; exact Hsum.out
  rw [e4]
  clear e4
  go_wp2_with fail
  refine (sum_any _ _ _ _ _ (H124.out.drewN q) (by simp only [maxLen]; omega)).mono ?_
  rintro e w' ⟨rfl, rfl⟩
  have hsl := sum8_lt (l.take 124)
  generalize hS : sum8 (l.take 124) = S at *
  clear hS
  go_wp2_with fail
  go_region_held3 (fun w' => w'.cell? ⟨b, o, none⟩ = some (.int .u8 (kd.toNat : Int))) (go_keep)
    (first | (go_at_call 46; refine (clone_any b (o + 1) 123 123 _ _ (H123.out.drewN _) (by omega)).mono ?_; rintro e w' ⟨v, rfl, hF⟩; have hkk := hF.keep (b := b) (o := o) (x := .int .u8 (kd.toNat : Int)) (by go_simp)))
  go_wp2
  go_ret3
  exact ⟨v, rfl, hF.from ⟨rfl, rfl, rfl, Nat.le_refl _, fun _ _ => rfl⟩⟩

set_option maxHeartbeats 400000 in
theorem open_no (A : Option Addr) (n c : Nat) (l : List UInt8) (w : World) (h : Reads8 w A n l) (hn : n ≤ maxLen) (hnc : n ≤ c) (hp : isPage l = false) :
    Calls Try.prog 29 #[.slice A n c] w fun e w' => e = .returned (.tuple #[.int .u8 0, .slice none 0 0, .int .i64 10]) ∧ ∃ q, w' = w.drewN q := by
  have hl := h.1
  by_cases h128 : n = 128
  · subst h128
    have hsum : num8 (l.drop 124) ≠ sum8 (l.take 124) := by
      intro e
      unfold isPage at hp
      simp [hl, e] at hp
    obtain ⟨b, o, rfl, hb, hc⟩ := h.2 (by omega)
    have h124 : Reads8 w (some ⟨b, o, none⟩) 124 (l.take 124) := by
      have := h.sub 0 124 (by omega) (by omega)
      simpa using this
    have h4 : Reads8 w (some ⟨b, o + 124, none⟩) 4 (l.drop 124) := by
      have := h.sub 124 4 (by omega) (by omega)
      rwa [List.take_of_length_le (by simp; omega)] at this
    have e4 : num8 (((l.drop 124).drop 0).take 4) = num8 (l.drop 124) := by rw [List.drop_zero, List.take_of_length_le (by have := h4.1; omega)]
    have H124 := Lib.hid h124; clear h124
    have H4 := Lib.hid h4; clear h4
    have E4 := Lib.hid e4; clear e4
    have Hsum := Lib.hid hsum; clear hsum
    clear h hc hl
    go_enter Try.func29, Try.ntmps29
    go_wp2_with fail
    refine (parts_any _ _ _ _ (by omega)).mono ?_
    rintro e w' ⟨rfl, q, rfl⟩
    go_wp2_with fail
    refine (get_yes _ _ 4 4 _ 0 4 _ (H4.out.drewN q) (by simp only [maxLen]; omega) (by omega) (by omega) (by omega) (by omega)).mono ?_
    rintro e w' ⟨rfl, rfl⟩
    rw [E4.out]
    go_wp2_with fail
    refine (sum_any _ _ _ _ _ (H124.out.drewN q) (by simp only [maxLen]; omega)).mono ?_
    rintro e w' ⟨rfl, rfl⟩
    have hsl := sum8_lt (l.take 124)
    have hne : ((num8 (l.drop 124) : Int) != (sum8 (l.take 124) : Int)) = true := by simp; exact fun e => Hsum.out (by omega)
    generalize hS : sum8 (l.take 124) = S at *
    generalize hN : num8 (l.drop 124) = N at *
    clear hS hN
    go_wp2_with fail
    go_ret3
    exact ⟨rfl, q, rfl⟩
  · unfold maxLen at hn
    have hne : ((n : Int) != 128) = true := by simp; omega
    clear h hl
    go_enter Try.func29, Try.ntmps29
    go_wp2_with fail
    go_ret3
    exact ⟨rfl, 0, rfl⟩

end Go.Proofs.Ytfnoeligaapnbaa
