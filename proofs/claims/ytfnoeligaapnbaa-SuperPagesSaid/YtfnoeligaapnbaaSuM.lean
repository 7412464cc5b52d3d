/-
  catchmentref06.Encode.
-/
import Derived.Test.YtfnoeligaapnbaaSuL
import Derived.Test.YtfnoeligaapnbaaOctS
namespace Go.Proofs.Ytfnoeligaapnbaa
open Go.RowKit
set_option linter.unusedVariables false
set_option linter.unusedSimpArgs false
attribute [local go_sem ↓] Go.wp_at_zero Go.wp_at_succ

theorem own_mono {w : World} {base base' s n : Nat} {e : TypeId} {v : Value} {xs : List Value} (h : w.ownsRow base e s v n xs) (hb : base' ≤ base) : w.ownsRow base' e s v n xs :=
  ⟨h.1, h.2.imp id fun ⟨g, cap, cur, h1, h2, r⟩ => ⟨g, cap, cur, h1, Nat.le_trans hb h2, r⟩⟩

theorem Reads8.grown {w w' : World} {row : Option Nat} {A : Option Addr} {n : Nat} {l : List UInt8} (h : Reads8 w A n l) (hg : w.grownBy w' row) (hd : ∀ a, A = some a → row ≠ some a.block) : Reads8 w' A n l :=
  ⟨h.1, fun hn => by
    obtain ⟨b, o, e, hlt, hc⟩ := h.2 hn
    exact ⟨b, o, e, Nat.lt_of_lt_of_le hlt hg.size, fun j hj => (World.cell?_of_block (a := ⟨b, o + j, none⟩) (hg.block b hlt (fun e2 => hd _ e e2.symm))).trans (hc j hj)⟩⟩
theorem own_lt {w : World} {base s n g c : Nat} {e : TypeId} {xs : List Value} (h : w.ownsRow base e s (.slice (some ⟨g, 0, none⟩) n c) n xs) : g < w.heap.size := by
  rcases h.2 with ⟨e, _⟩ | ⟨g', cap', cur, e, hg, hh, hn, hm, hs, ht⟩
  · cases e
  · injection e with e1 _ e3
    injection e1 with e1
    injection e1 with e1
    subst e1
    exact (Array.getElem?_eq_some_iff.1 hh).1

set_option maxRecDepth 100000 in
set_option maxHeartbeats 2000000 in
theorem rencode_bad (s : Sup) (w : World) (hr : rightS s = false) :
    Calls Try.prog 13 #[sval s] w fun e w' => e = .returned (.tuple #[.slice none 0 0, .int .i64 60]) ∧ Below w.heap.size w w' := by
  have HF := Lib.hid hr; clear hr
  go_enter Try.func13, Try.ntmps13
  go_wp2_with (refine wl_box (.tmp 0) rfl (by rfl) s rfl ?_)
  intro W0 hb0 hm0 hs0
  have B0 := Lib.hid hb0
  have M0 := Lib.hid hm0
  clear hb0 hm0 hs0
  go_wp2_with (refine wl_load (.tmp 1) rfl (by rfl) w.heap.size s rfl M0.out ?_)
  refine (rright_any s _).mono ?_
  rintro e w1 ⟨rfl, hb⟩
  rw [HF.out]
  have B1 := Lib.hid (B0.out.trans (hb.mono B0.out.size))
  clear hb
  go_wp2_with fail
  go_ret2
  exact ⟨rfl, B1.out⟩

set_option maxRecDepth 100000 in
set_option maxHeartbeats 8000000 in
theorem rencode_good (s : Sup) (w : World) (hr : rightS s = true) :
    Calls Try.prog 13 #[sval s] w fun e w' => ∃ v, e = .returned (.tuple #[v, .int .i64 0]) ∧ Fresh8 w w' v (spage s) := by
  have HF := Lib.hid hr; clear hr
  go_enter Try.func13, Try.ntmps13
  go_wp2_with (refine wl_box (.tmp 0) rfl (by rfl) s rfl ?_)
  intro W0 hb0 hm0 hs0
  have B0 := Lib.hid hb0
  have M0 := Lib.hid hm0
  clear hb0 hm0 hs0
  go_wp2_with (refine wl_load (.tmp 1) rfl (by rfl) w.heap.size s rfl M0.out ?_)
  refine (rright_any s _).mono ?_
  rintro e w1 ⟨rfl, hb⟩
  rw [HF.out]
  have B1 := Lib.hid hb
  clear hb HF
  obtain ⟨c0, _⟩ := (M0.out.keep B1.out).gets 0 _ (scells_gen s)
  go_wp2_with fail
  refine (rbytes_own s.gen.toNat 8 _ (by omega) (UInt64.toNat_lt _)).mono ?_
  rintro e w2 ⟨v, rfl, hown, hne, hb⟩
  have hown2 : w2.ownsRow W0.heap.size 5 1 v 8 (bcells (flatS s 1)) := own_mono hown B1.out.size
  obtain ⟨g2, d2, rfl, _⟩ := own_shape hown2 hne
  have O2 := Lib.hid hown2
  have B2 := Lib.hid (B1.out.trans (hb.mono B1.out.size))
  clear hown hown2 hne hb c0 B1
  obtain ⟨c1, _⟩ := (M0.out.keep B2.out).gets 1 _ (scells_blocks s)
  have hx32 := UInt32.toNat_lt s.blocks
  have HX32 := Lib.hid hx32
  have wx : IntKind.u64.wrap (s.blocks.toNat : Int) = (s.blocks.toNat : Int) := IntWalk.u64_in _ (by omega)
  clear hx32
  go_wp2_with fail
  refine (rbytes_any s.blocks.toNat 4 _ (by omega) (by have := HX32.out; omega)).mono ?_
  rintro e w3 ⟨v, rfl, hF⟩
  obtain ⟨g3, d3, rfl, _, _, _, hM3, hb⟩ := hF.open_ (be_length s.blocks.toNat 4)
  have O3 := Lib.hid (own_keep O2.out hb)
  have B3 := Lib.hid (B2.out.trans (hb.mono B2.out.size))
  have P3 := Lib.hid hM3.reads
  have hdec : decide (s.blocks.toNat / 256 ^ 4 = 0) = true := decide_eq_true (Nat.div_eq_of_lt HX32.out)
  rw [hdec]
  clear hM3 hb hF c1 wx O2 B2 hdec
  go_wp2_with (at_builtin; refine wpList_append8 rfl _ _ 28 rfl W0.heap.size 5 Try.underlying28 u8info (.slice (some ⟨g2, 0, none⟩) 8 d2) 8 (flatS s 1) rfl O3.out (some ⟨g3, 0, none⟩) 4 d3 (be s.blocks.toNat 4) rfl P3.out (by omega) B3.out.size ?_)
  intro v' w4 hown hgrow hnil hat
  have hb4 : Below W0.heap.size W0 w4 := B3.out.grown hgrow B3.out.size (own_base O3.out)
  have hne : v' ≠ .slice none 0 0 := by simpa using hnil
  have hown2 : w4.ownsRow W0.heap.size 5 1 v' 12 (bcells (flatS s 2)) := by
    rw [flatS_succ]
    exact hown
  obtain ⟨g4, d4, rfl, _⟩ := own_shape hown2 hne
  have O4 := Lib.hid hown2
  have B4 := Lib.hid hb4
  clear hown hown2 hgrow hnil hat hne hb4 O3 B3 P3
  go_wp2_with fail
  go_loopw [4, 8] (fun v i wr => ∃ k g d : Nat, k ≤ 8 ∧ i = .int .i64 k ∧ v = .slice (some ⟨g, 0, none⟩) (12 + 4 * k) d ∧ wr.ownsRow W0.heap.size 5 1 (.slice (some ⟨g, 0, none⟩) (12 + 4 * k) d) (12 + 4 * k) (bcells (flatS s (2 + k))) ∧ Below W0.heap.size W0 wr) (fun _ i _ => 8 - (intOf i).toNat)
  case atStart => exact ⟨0, _, _, Nat.zero_le _, rfl, rfl, O4.out, B4.out⟩
  case round =>
    clear O4 B4
    obtain ⟨k, g, d, hk, rfl, rfl, hown, hb⟩ := hrel
    have HO := Lib.hid hown; clear hown
    have HB := Lib.hid hb; clear hb
    by_cases hlt : k < 8
    · obtain ⟨c0, _⟩ := (M0.out.keep HB.out).gets (2 + k) _ (scells_root s k hlt)
      have hfl := fval_lt s (2 + k)
      have hfs : fsize (2 + k) = 4 := by unfold fsize; rw [if_neg (by omega), if_pos (by omega)]
      have hst := flatS_succ s (2 + k)
      rw [hfs] at hfl hst
      obtain ⟨x, hx⟩ : ∃ x, x = fval s (2 + k) := ⟨_, rfl⟩
      rw [← hx] at c0 hfl hst
      have hx32 : x < 4294967296 := hfl
      have HST := Lib.hid hst
      have HX := Lib.hid hx32
      have wx : IntKind.u64.wrap (x : Int) = (x : Int) := IntWalk.u64_in _ (by omega)
      clear hx hfl hfs hst hx32
      have k0 : (0 : Int) ≤ (k : Int) := Int.natCast_nonneg _
      have k1 : (k : Int) < 8 := by omega
      go_wp2_with fail
      refine (rbytes_any x 4 _ (by omega) (by have := HX.out; omega)).mono ?_
      rintro e w5 ⟨v, rfl, hF⟩
      obtain ⟨g5, d5, rfl, _, _, _, hM5, hb⟩ := hF.open_ (be_length x 4)
      have O5 := Lib.hid (own_keep HO.out hb)
      have B5 := Lib.hid (HB.out.trans (hb.mono HB.out.size))
      have P5 := Lib.hid hM5.reads
      have hdec : decide (x / 256 ^ 4 = 0) = true := decide_eq_true (Nat.div_eq_of_lt HX.out)
      rw [hdec]
      clear hM5 hb hF c0 wx HO HB hdec
      go_wp2_with (at_builtin; refine wpList_append8 rfl _ _ 28 rfl W0.heap.size 5 Try.underlying28 u8info (.slice (some ⟨g, 0, none⟩) (12 + 4 * k) d) (12 + 4 * k) (flatS s (2 + k)) rfl O5.out (some ⟨g5, 0, none⟩) 4 d5 (be x 4) rfl P5.out (by omega) B5.out.size ?_)
      intro v' w6 hown hgrow hnil hat
      have hb6 : Below W0.heap.size W0 w6 := B5.out.grown hgrow B5.out.size (own_base O5.out)
      have hne : v' ≠ .slice none 0 0 := by simpa using hnil
      have hown2 : w6.ownsRow W0.heap.size 5 1 v' (12 + 4 * (k + 1)) (bcells (flatS s (2 + (k + 1)))) := by
        rw [show 2 + (k + 1) = 2 + k + 1 by omega, HST.out, show 12 + 4 * (k + 1) = 12 + 4 * k + 4 by omega]
        exact hown
      obtain ⟨g6, d6, rfl, _⟩ := own_shape hown2 hne
      have O6 := Lib.hid hown2
      have B6 := Lib.hid hb6
      clear hown hown2 hgrow hnil hat hne hb6 O5 B5 P5
      go_wp2_with fail
      go_roundw
      case rel => exact ⟨k + 1, g6, d6, by omega, by go_num, rfl, O6.out, B6.out⟩
      case measure => simp [intOf]; omega
    · obtain rfl : k = 8 := by omega
      have O7 : Hid (wr.ownsRow W0.heap.size 5 1 (.slice (some ⟨g, 0, none⟩) 44 d) 44 (bcells (flatS s 10))) := Lib.hid HO.out
      have B7 := HB
      clear HO HB hk hlt
      rw [show ((8 : Nat) : Int) = 8 from rfl, show 12 + 4 * 8 = 44 from rfl]
      go_wp2_with fail
      go_loopw [4, 11] (fun v i wr => ∃ k g d : Nat, k ≤ 8 ∧ i = .int .i64 k ∧ v = .slice (some ⟨g, 0, none⟩) (44 + 8 * k) d ∧ wr.ownsRow W0.heap.size 5 1 (.slice (some ⟨g, 0, none⟩) (44 + 8 * k) d) (44 + 8 * k) (bcells (flatS s (10 + k))) ∧ Below W0.heap.size W0 wr) (fun _ i _ => 8 - (intOf i).toNat)
      case atStart => exact ⟨0, _, _, Nat.zero_le _, rfl, rfl, O7.out, B7.out⟩
      case round =>
        clear O7 B7
        obtain ⟨k, g, d, hk, rfl, rfl, hown, hb⟩ := hrel
        have HO := Lib.hid hown; clear hown
        have HB := Lib.hid hb; clear hb
        by_cases hlt : k < 8
        · obtain ⟨c0, _⟩ := (M0.out.keep HB.out).gets (10 + k) _ (scells_mark s k hlt)
          have hfl := fval_lt s (10 + k)
          have hfs : fsize (10 + k) = 8 := by unfold fsize; rw [if_neg (by omega), if_neg (by omega)]
          have hst := flatS_succ s (10 + k)
          rw [hfs] at hfl hst
          obtain ⟨x, hx⟩ : ∃ x, x = fval s (10 + k) := ⟨_, rfl⟩
          rw [← hx] at c0 hfl hst
          have HX : Hid (x < 18446744073709551616) := Lib.hid hfl
          have HST := Lib.hid hst
          clear hx hfl hfs hst
          have k0 : (0 : Int) ≤ (k : Int) := Int.natCast_nonneg _
          have k1 : (k : Int) < 8 := by omega
          go_wp2_with fail
          refine (rbytes_any x 8 _ (by omega) HX.out).mono ?_
          rintro e w5 ⟨v, rfl, hF⟩
          obtain ⟨g5, d5, rfl, _, _, _, hM5, hb⟩ := hF.open_ (be_length x 8)
          have O5 := Lib.hid (own_keep HO.out hb)
          have B5 := Lib.hid (HB.out.trans (hb.mono HB.out.size))
          have P5 := Lib.hid hM5.reads
          have hdec : decide (x / 256 ^ 8 = 0) = true := decide_eq_true (Nat.div_eq_of_lt HX.out)
          rw [hdec]
          clear hM5 hb hF c0 HO HB hdec
          go_wp2_with (at_builtin; refine wpList_append8 rfl _ _ 28 rfl W0.heap.size 5 Try.underlying28 u8info (.slice (some ⟨g, 0, none⟩) (44 + 8 * k) d) (44 + 8 * k) (flatS s (10 + k)) rfl O5.out (some ⟨g5, 0, none⟩) 8 d5 (be x 8) rfl P5.out (by omega) B5.out.size ?_)
          intro v' w6 hown hgrow hnil hat
          have hb6 : Below W0.heap.size W0 w6 := B5.out.grown hgrow B5.out.size (own_base O5.out)
          have hne : v' ≠ .slice none 0 0 := by simpa using hnil
          have hown2 : w6.ownsRow W0.heap.size 5 1 v' (44 + 8 * (k + 1)) (bcells (flatS s (10 + (k + 1)))) := by
            rw [show 10 + (k + 1) = 10 + k + 1 by omega, HST.out, show 44 + 8 * (k + 1) = 44 + 8 * k + 8 by omega]
            exact hown
          obtain ⟨g6, d6, rfl, _⟩ := own_shape hown2 hne
          have O6 := Lib.hid hown2
          have B6 := Lib.hid hb6
          clear hown hown2 hgrow hnil hat hne hb6 O5 B5 P5
          go_wp2_with fail
          go_roundw
          case rel => exact ⟨k + 1, g6, d6, by omega, by go_num, rfl, O6.out, B6.out⟩
          case measure => simp [intOf]; omega
        · obtain rfl : k = 8 := by omega
          have O7 : Hid (wr.ownsRow W0.heap.size 5 1 (.slice (some ⟨g, 0, none⟩) 108 d) 108 (bcells (flatS s 18))) := Lib.hid HO.out
          have B7 := HB
          obtain ⟨c0, _⟩ := (M0.out.keep HB.out).gets 0 _ (scells_gen s)
          clear HO HB hk hlt
          rw [show ((8 : Nat) : Int) = 8 from rfl, show 44 + 8 * 8 = 108 from rfl]
          go_wp2_with fail
          refine (rbytes_any s.gen.toNat 8 _ (by omega) (UInt64.toNat_lt _)).mono ?_
          rintro e w5 ⟨v, rfl, hF⟩
          obtain ⟨g5, d5, rfl, hg5, _, _, hM5, hb⟩ := hF.open_ (be_length s.gen.toNat 8)
          have HG5 : Hid (g < g5) := Lib.hid (Nat.lt_of_lt_of_le (own_lt O7.out) hg5)
          have O5 := Lib.hid (own_keep O7.out hb)
          have B5 := Lib.hid (B7.out.trans (hb.mono B7.out.size))
          have P5 := Lib.hid hM5.reads
          clear hM5 hb hF c0 O7 B7 hg5
          go_upto_region 17 with fail
          have hr7 : Reads8 (w5.alloc (.cells #[.int .u8 0, .int .u8 0, .int .u8 0, .int .u8 0, .int .u8 0, .int .u8 0, .int .u8 0] 5)) (some ⟨w5.heap.size, 0, none⟩) 7 (List.replicate 7 0) := (Blk8.new w5 (List.replicate 7 0)).mem.reads
          have hba : Below w5.heap.size w5 (w5.alloc (.cells #[.int .u8 0, .int .u8 0, .int .u8 0, .int .u8 0, .int .u8 0, .int .u8 0, .int .u8 0] 5)) := (Below.refl _ _).alloc (Nat.le_refl _) _
          have R7 := Lib.hid hr7
          have OA := Lib.hid (own_keep O5.out hba)
          have BA := Lib.hid (B5.out.trans (hba.mono B5.out.size))
          have PA := Lib.hid (P5.out.keep hba)
          clear hr7 hba O5 B5 P5
          go_wp2_with (at_builtin; refine wpList_append8 rfl _ _ 28 rfl W0.heap.size 5 Try.underlying28 u8info (.slice (some ⟨g, 0, none⟩) 108 d) 108 (flatS s 18) rfl OA.out (some ⟨w5.heap.size, 0, none⟩) 7 7 (List.replicate 7 0) rfl R7.out (by omega) BA.out.size ?_)
          intro v' w6 hown hgrow hnil hat
          have hb6 : Below W0.heap.size W0 w6 := BA.out.grown hgrow BA.out.size (own_base OA.out)
          have hne : v' ≠ .slice none 0 0 := by simpa using hnil
          obtain ⟨g6, d6, rfl, _⟩ := own_shape hown hne
          have O6 := Lib.hid hown
          have B6 := Lib.hid hb6
          have P6 : Hid (Reads8 w6 (some ⟨g5, 0, none⟩) 8 (be s.gen.toNat 8)) := Lib.hid (PA.out.grown hgrow (by
            intro a ha e
            injection ha with ha
            subst ha
            simp [Value.ownBlock] at e
            have := HG5.out
            omega))
          clear hown hgrow hnil hat hne hb6 OA BA PA R7
          go_wp2_with (at_builtin; refine wpList_append8 rfl _ _ 28 rfl W0.heap.size 5 Try.underlying28 u8info (.slice (some ⟨g6, 0, none⟩) (108 + 7) d6) (108 + 7) (flatS s 18 ++ List.replicate 7 0) rfl O6.out (some ⟨g5, 0, none⟩) 8 d5 (be s.gen.toNat 8) rfl P6.out (by omega) B6.out.size ?_)
          intro v' w7 hown hgrow hnil hat
          have hb7 : Below W0.heap.size W0 w7 := B6.out.grown hgrow B6.out.size (own_base O6.out)
          have hne : v' ≠ .slice none 0 0 := by simpa using hnil
          have hown2 : w7.ownsRow W0.heap.size 5 1 v' 123 (bcells (sbody s)) := by
            unfold sbody
            rw [← List.append_assoc]
            exact hown
          obtain ⟨g7, d7, rfl, _⟩ := own_shape hown2 hne
          have hm7 := Mem8.of_own (l := sbody s) (by rw [sbody_length]; exact hown2)
          rw [sbody_length] at hm7
          have P7 := Lib.hid hm7.reads
          have B7 := Lib.hid hb7
          clear hown hown2 hgrow hnil hat hne hb7 hm7 O6 B6 P6
          go_wp2_with fail
          refine (rseal_any _ 123 _ 6 (sbody s) _ P7.out (by omega)).mono ?_
          rintro e w8 ⟨v, rfl, hF⟩
          have HF := Lib.hid (hF.from (B0.out.trans (B7.out.mono B0.out.size)))
          clear hF
          go_wp2_with fail
          go_ret2
          exact ⟨v, rfl, HF.out⟩

end Go.Proofs.Ytfnoeligaapnbaa
