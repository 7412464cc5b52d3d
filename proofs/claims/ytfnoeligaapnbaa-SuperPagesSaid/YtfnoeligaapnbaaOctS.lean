/-
  The document's Seal and Open.
-/
import Derived.Test.YtfnoeligaapnbaaOctX2
import Derived.Deep.RegionHeld3
namespace Go.Proofs.Ytfnoeligaapnbaa
open Go.RowKit
set_option linter.unusedVariables false

theorem rseal_long (A : Option Addr) (n c : Nat) (kind : Int) (w : World) (hn : n ≤ maxLen) (h : 123 < n) :
    Calls Try.prog 28 #[.int .u8 kind, .slice A n c] w fun e w' => e = .returned (.tuple #[.slice none 0 0, .int .i64 3]) ∧ w = w' := by
  unfold maxLen at hn
  go_enter Try.func28, Try.ntmps28
  go_wp2
  go_ret2
  exact ⟨rfl, rfl⟩

theorem zeros_snoc (m : Nat) (l : List UInt8) : l ++ List.replicate m 0 ++ [0] = l ++ List.replicate (m + 1) (0 : UInt8) := by
  rw [List.append_assoc, List.replicate_succ']

/-- The length of a slice value. -/
def lenV : Value → Nat | .slice _ k _ => k | _ => 0

set_option maxHeartbeats 1000000 in
set_option maxRecDepth 100000 in
theorem rseal_any (A : Option Addr) (n c : Nat) (kind : UInt8) (body : List UInt8) (w : World) (h : Reads8 w A n body) (hn : n ≤ 123) :
    Calls Try.prog 28 #[.int .u8 (kind.toNat : Int), .slice A n c] w fun e w' => ∃ v, e = .returned (.tuple #[v, .int .i64 0]) ∧ Fresh8 w w' v (pageOf kind body) := by
  have hl := Lib.hid h.1
  have HR := Lib.hid h; clear h
  go_enter Try.func28, Try.ntmps28
  go_wp2_with (at_builtin; refine wpList_append8 rfl _ _ 28 rfl w.heap.size 5 Try.underlying28 u8info _ 1 [kind] rfl (World.ownsRow_lit w #[.int .u8 (kind.toNat : Int)] 1 (Nat.le_refl _) (by simp only [maxLen]; omega) rfl) A n c body rfl (HR.out.keep ((Below.refl _ _).alloc (Nat.le_refl _) _)) (by omega) (by simp) ?_)
  intro v' w1 hown hgrow hnil hat
  have hb : Below w.heap.size w w1 := ((Below.refl _ _).alloc (Nat.le_refl _) _).grown hgrow (by simp) (by intro k hk; simp [Value.ownBlock] at hk; omega)
  have hne : v' ≠ .slice none 0 0 := by simpa using hnil
  have hown1 : w1.ownsRow w.heap.size 5 1 v' (1 + n) (bcells (kind :: body)) := by simpa using hown
  obtain ⟨g, d, rfl, hg, hd, hdm, hglt⟩ := own_shape hown1 hne
  have HO := Lib.hid hown1
  have HB := Lib.hid hb
  clear hown hown1 hgrow hnil hat hne hb hg hd hdm hglt
  go_wp2_with fail
  go_loopw [6] (fun v wr => ∃ m g d : Nat, m ≤ 123 - n ∧ v = .slice (some ⟨g, 0, none⟩) (1 + n + m) d ∧ wr.ownsRow w.heap.size 5 1 (.slice (some ⟨g, 0, none⟩) (1 + n + m) d) (1 + n + m) (bcells (kind :: body ++ List.replicate m 0)) ∧ Below w.heap.size w wr) (fun v _ => 124 - lenV v)
  case atStart => exact ⟨0, g, d, Nat.zero_le _, rfl, by simpa using HO.out, HB.out⟩
  case round =>
    clear HO HB
    obtain ⟨m, g2, d2, hm, rfl, hown, hb⟩ := hrel
    have HO := Lib.hid hown; clear hown
    have HB := Lib.hid hb; clear hb
    by_cases hlt : m < 123 - n
    · have hi : ((1 : Int) + n + m) < 124 := by omega
      go_wp2_with (at_builtin; refine wpList_append8 rfl _ _ 28 rfl w.heap.size 5 Try.underlying28 u8info _ (1 + n + m) (kind :: body ++ List.replicate m 0) rfl (HO.out.alloc _) (some ⟨wr.heap.size, 0, none⟩) 1 1 [0] rfl (Blk8.new wr [0]).mem.reads (by omega) (by have := HB.out.size; simp; omega) ?_)
      intro v' w2 hown hgrow hnil hat
      have hb2 : Below w.heap.size w w2 := (HB.out.alloc HB.out.size _).grown hgrow (by have := HB.out.size; simp; omega) (by
        intro k hk
        have := (HO.out.lt g2 rfl).1
        simp [Value.ownBlock] at hk
        omega)
      have hne : v' ≠ .slice none 0 0 := by simpa using hnil
      have hown2 : w2.ownsRow w.heap.size 5 1 v' (1 + n + (m + 1)) (bcells (kind :: body ++ List.replicate (m + 1) 0)) := by
        rw [← zeros_snoc]
        simpa [Nat.add_assoc] using hown
      obtain ⟨g3, d3, rfl, _⟩ := own_shape hown2 hne
      have HO2 := Lib.hid hown2
      have HB2 := Lib.hid hb2
      clear hown hown2 hgrow hnil hat hne hb2 HO HB
      go_wp2_with fail
      go_roundw
      case rel => exact ⟨m + 1, g3, d3, by omega, rfl, HO2.out, HB2.out⟩
      case measure => simp [lenV]; omega
    · obtain rfl : m = 123 - n := by omega
      have e124 : 1 + n + (123 - n) = 124 := by omega
      rw [e124] at HO ⊢
      have hs : kind :: body ++ List.replicate (123 - n) 0 = said kind body := by unfold said; rw [hl.out]
      rw [hs] at HO
      have hsl : (said kind body).length = 124 := said_length kind body (by have := hl.out; omega)
      have hm : Mem8 wr g2 0 124 (said kind body) := by
        have := Mem8.of_own (l := said kind body) (by rw [hsl]; exact HO.out)
        rwa [hsl] at this
      have HM := Lib.hid hm; clear hm hs e124 hlt
      go_wp2_with fail
      refine (rsum_any _ 124 d2 _ _ HM.out.reads (by simp only [maxLen]; omega)).mono ?_
      rintro e w' ⟨rfl, rfl⟩
      have hsl4 := sum8_lt (said kind body)
      generalize hS : sum8 (said kind body) = S at *
      have HS := Lib.hid hS; clear hS
      go_wp2_with fail
      refine (rbytes_any S 4 _ (by omega) (by omega)).mono ?_
      rintro e w3 ⟨v, rfl, hF⟩
      obtain ⟨gb, cb, rfl, hgb, hcb, hcbm, hM, hB⟩ := hF.open_ (be_length S 4)
      have HB3 := Lib.hid (HB.out.trans (hB.mono HB.out.size))
      have HO3 := Lib.hid (HO.out.kept (row := none) ⟨hB.os, hB.tape, hB.output, hB.size, fun k hk _ => hB.block k hk⟩ (by simp [Value.ownBlock]))
      have HBY := Lib.hid hM
      clear hM hB hF HB HO HM
      go_wp2_with (at_builtin; refine wpList_append8 rfl _ _ 28 rfl w.heap.size 5 Try.underlying28 u8info _ 124 (said kind body) rfl HO3.out (some ⟨gb, 0, none⟩) 4 cb (be S 4) rfl HBY.out.reads (by omega) HB3.out.size ?_)
      intro v' w4 hown hgrow hnil hat
      have hb4 : Below w.heap.size w w4 := HB3.out.grown hgrow HB3.out.size (by
        intro k hk
        have := (HO3.out.lt g2 rfl).1
        simp [Value.ownBlock] at hk
        omega)
      have hne : v' ≠ .slice none 0 0 := by simpa using hnil
      have hF : Fresh8 w w4 v' (pageOf kind body) := by
        refine Fresh8.of_own (e := 5) ?_ hne hb4
        rw [pageOf_length kind body (by have := hl.out; omega)]
        unfold pageOf
        rw [HS.out]
        simpa using hown
      have HF := Lib.hid hF
      clear hown hgrow hnil hat hb4 hne hF
      go_wp2_with fail
      go_ret2
      exact ⟨v', rfl, HF.out⟩

end Go.Proofs.Ytfnoeligaapnbaa
