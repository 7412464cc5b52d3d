/-
  The document's Open.
-/
import Derived.Test.YtfnoeligaapnbaaOctS
import Derived.Deep.AppendLies
namespace Go.Proofs.Ytfnoeligaapnbaa
open Go.RowKit
set_option linter.unusedVariables false

theorem bdn (w : World) (k : Nat) : Below w.heap.size w (w.drewN k) := ⟨rfl, rfl, rfl, Nat.le_refl _, fun _ _ => rfl⟩

theorem quietL {P : Program} {f : FuncId} {args : Array Value} {w : World} {n : Nat} {v : Value} (h : Calls P f args (w.drewN n) fun e w' => e = .returned v ∧ w.drewN n = w') :
    Calls P f args (w.drewN n) fun e w'' => e = .returned v ∧ ∃ m, w'' = w.drewN m := h.mono fun _ _ ⟨he, hm⟩ => ⟨he, n, hm.symm⟩

set_option maxHeartbeats 1000000 in
theorem ropen_no (A : Option Addr) (n c : Nat) (l : List UInt8) (w : World) (h : Reads8 w A n l) (hn : n ≤ maxLen) (hnc : n ≤ c) (hp : isPage l = false) :
    Calls Try.prog 32 #[.slice A n c] w fun e w' => e = .returned (.tuple #[.int .u8 0, .slice none 0 0, .int .i64 10]) ∧ ∃ q, w' = w.drewN q := by
  have hl := h.1
  by_cases h128 : n = 128
  · subst h128
    have hsum : num8 (l.drop 124) ≠ sum8 (l.take 124) := by
      intro e
      unfold isPage at hp
      simp [hl, e] at hp
    obtain ⟨b, o, rfl, hb, hc⟩ := h.2 (by omega)
    have h124 : Reads8 w (some ⟨b, o, none⟩) 124 (l.take 124) := by
      have := h.sub 0 124 (by omega) (by omega)
      simpa using this
    have h4 : Reads8 w (some ⟨b, o + 124, none⟩) 4 (l.drop 124) := by
      have := h.sub 124 4 (by omega) (by omega)
      rwa [List.take_of_length_le (by simp; omega)] at this
    have H124 := Lib.hid h124; clear h124
    have H4 := Lib.hid h4; clear h4
    have hne : ((num8 (l.drop 124) : Int) != (sum8 (l.take 124) : Int)) = true := by simp; exact fun e => hsum (by omega)
    have hs := sum8_lt (l.take 124)
    clear h hc hl hsum hp
    have c1 : ¬ c = 124 := by omega
    have c2 : (124 : Int) ≤ c := by omega
    have c3 : (128 : Int) ≤ c := by omega
    go_enter Try.func32, Try.ntmps32
    go_wp2_with fail
    go_quiet (first | (go_at_call 33; exact quietL (number_any _ 4 _ _ _ (H4.out.drewN _) (by omega))) | (go_at_call 45; exact quietL (rsum_any _ 124 _ _ _ (H124.out.drewN _) (by simp only [maxLen]; omega))))
    go_wp2_with fail
    go_ret3
    exact ⟨rfl, _, rfl⟩
  · unfold maxLen at hn
    have hne : ((n : Int) != 128) = true := by simp; omega
    clear h hl
    go_enter Try.func32, Try.ntmps32
    go_wp2_with fail
    go_quiet (fail)
    go_wp2_with fail
    go_ret3
    exact ⟨rfl, _, rfl⟩

set_option maxHeartbeats 1000000 in
theorem ropen_yes (A : Option Addr) (n c : Nat) (l : List UInt8) (w : World) (h : Reads8 w A n l) (hnc : n ≤ c) (hp : isPage l = true) :
    Calls Try.prog 32 #[.slice A n c] w fun e w' => ∃ v, e = .returned (.tuple #[.int .u8 ((l.headD 0).toNat : Int), v, .int .i64 0]) ∧ Fresh8 w w' v ((l.drop 1).take 123) := by
  have hl := h.1
  unfold isPage at hp
  simp only [Bool.and_eq_true, decide_eq_true_eq] at hp
  obtain ⟨h128, hsum⟩ := hp
  obtain rfl : n = 128 := by omega
  obtain ⟨b, o, rfl, hb, hc⟩ := h.2 (by omega)
  have h124 : Reads8 w (some ⟨b, o, none⟩) 124 (l.take 124) := by
    have := h.sub 0 124 (by omega) (by omega)
    simpa using this
  have h4 : Reads8 w (some ⟨b, o + 124, none⟩) 4 (l.drop 124) := by
    have := h.sub 124 4 (by omega) (by omega)
    rwa [List.take_of_length_le (by simp; omega)] at this
  have h123 : Reads8 w (some ⟨b, o + 1, none⟩) 123 ((l.drop 1).take 123) := h.sub 1 123 (by omega) (by omega)
  have hl123 : ((l.drop 1).take 123).length = 123 := by simp; omega
  have hc0 : w.cell? ⟨b, o, none⟩ = some (.int .u8 ((l.headD 0).toNat : Int)) := by
    have := hc 0 (by omega)
    rw [Nat.add_zero] at this
    rw [this]
    cases l with
    | nil => simp at h128
    | cons x l => rfl
  generalize hk : l.headD 0 = kd at *
  have H124 := Lib.hid h124; clear h124
  have H4 := Lib.hid h4; clear h4
  have H123 := Lib.hid h123; clear h123
  have HL := Lib.hid hl123; clear hl123
  have hq : ((num8 (l.drop 124) : Int) != (sum8 (l.take 124) : Int)) = false := by simp; omega
  have hs := sum8_lt (l.take 124)
  clear h hc hl h128 hk hsum
  have c1 : ¬ c = 124 := by omega
  have c2 : (124 : Int) ≤ c := by omega
  have c3 : (128 : Int) ≤ c := by omega
  go_enter Try.func32, Try.ntmps32
  go_wp2_with fail
  go_quiet (first | (go_at_call 33; exact quietL (number_any _ 4 _ _ _ (H4.out.drewN _) (by omega))) | (go_at_call 45; exact quietL (rsum_any _ 124 _ _ _ (H124.out.drewN _) (by simp only [maxLen]; omega))))
  clear hq
  go_wp2_with fail
  have hbs : b < w.heap.size := hb
  have c4 : ¬ c = 1 := by omega
  go_region_held3 (fun w' => w'.cell? ⟨b, o, none⟩ = some (.int .u8 (kd.toNat : Int)))
    (first | go_keep | (rw [hgrow.cell_far _ (by simp; omega) (by simp [Value.ownBlock]; omega)]; assumption))
    ((refine step_append8 (by rfl) _ _ 28 (by rfl) w.heap.size 5 Try.underlying28 u8info (.slice (some ⟨w.heap.size, 0, none⟩) 0 0) 0 [] (by rfl) ?_ (some ⟨b, o + 1, none⟩) 123 (c - 1) ((l.drop 1).take 123) (by rfl) ?_ (by omega) ?_ ?_; exact World.ownsRow_lit w #[] 0 (Nat.le_refl _) (Nat.zero_le _) rfl; exact (H123.out.drewN _).keep ((Below.refl _ _).alloc (Nat.le_refl _) _); simp; intro v' w' hown hgrow hnil hat))
  have hbw : Below w.heap.size w ((w.drewN (nq + 1)).alloc (.cells #[] 5)) := (bdn w (nq + 1)).alloc (Nat.le_refl _) _
  have hb1 : Below w.heap.size w w' := hbw.grown hgrow (by simp) (by intro k hk; simp [Value.ownBlock] at hk; omega)
  have hne : v' ≠ .slice none 0 0 := by simpa using hnil
  have hF : Fresh8 w w' v' ((l.drop 1).take 123) := Fresh8.of_own (e := 5) (by rw [HL.out]; simpa using hown) hne hb1
  have HF := Lib.hid hF
  clear hown hgrow hnil hat hbw hb1 hne hF
  go_wp2_with fail
  go_ret3
  exact ⟨v', rfl, HF.out⟩

end Go.Proofs.Ytfnoeligaapnbaa
