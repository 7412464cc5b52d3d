/-
  catchmentlaw06.awake.
-/
import Derived.Test.YtfnoeligaapnbaaSuQ
namespace Go.Proofs.Ytfnoeligaapnbaa
open Go.RowKit Go.Shelf
set_option linter.unusedVariables false
set_option linter.unusedSimpArgs false
attribute [local go_sem ↓] Go.wp_at_zero Go.wp_at_succ

theorem slot2 (w : World) : Calls Try.prog 21 #[.int .u64 2] w fun e w' => e = .returned (.int .i64 0) ∧ w = w' := slot_any 2 w
theorem slot3 (w : World) : Calls Try.prog 21 #[.int .u64 3] w fun e w' => e = .returned (.int .i64 1) ∧ w = w' := slot_any 3 w

set_option maxHeartbeats 8000000 in
set_option maxRecDepth 100000 in
theorem awake_any (w : World) : Calls Try.prog 10 #[] w fun e w' => e = .returned (.bool true) ∧ Below w.heap.size w w' := by
  go_enter Try.func10, Try.ntmps10
  go_upto_region 1 with fail
  refine wp_region_lit ?_
  refine wl_build2 _ _ rfl (by rfl) 2 16 rfl rfl ?_
  refine wl_build2 _ _ rfl (by rfl) 3 16 rfl rfl ?_
  refine wl_alloc rfl (by rfl) fun W1 hb1 hm1 hs1 => ?_
  refine wl_alloc rfl (by rfl) fun W2 hb2 hm2 hs2 => ?_
  refine wl_store (.tmp 1) (.tmp 22) rfl (by rfl) w.heap.size noS two rfl rfl (hm1.keep hb2) fun W3 hb3 hm3 => ?_
  refine wl_store (.tmp 2) (.tmp 23) rfl (by rfl) W1.heap.size noS three rfl rfl (hm2.other (hb3.2.2.2.2 _ (by omega)) hb3.1) fun W4 hb4 hm4 => ?_
  have S4 := Lib.hid (hm3.other (hb4.2.2.2.2 _ (by omega)) hb4.1)
  have T4 := Lib.hid hm4
  have B4 := Lib.hid (((hb1.trans (hb2.mono hb1.size)).trans (hb3.below (Nat.le_refl _))).trans (hb4.below hb1.size))
  generalize W1.heap.size = q1 at *
  clear hb1 hm1 hs1 hb2 hm2 hs2 hb3 hm3 hb4 hm4 W1 W2 W3
  go_wp2_with (refine wl_load (.tmp 1) rfl (by rfl) w.heap.size two rfl S4.out ?_)
  refine (encode_good two _ two_right).mono ?_
  rintro e W5 ⟨v, rfl, hF⟩
  obtain ⟨g5, d5, rfl, _, hd5, hdm5, hM5, hb5⟩ := hF.open_ (spage_length two)
  have B5 := Lib.hid (B4.out.trans (hb5.mono B4.out.size))
  have S5 := Lib.hid (S4.out.keep hb5)
  have T5 := Lib.hid (T4.out.keep hb5)
  have P5 := Lib.hid hM5
  clear hF hM5 hb5 S4 T4 B4
  go_wp2_with (refine wl_load (.tmp 2) rfl (by rfl) q1 three rfl T5.out ?_)
  refine (encode_good three _ three_right).mono ?_
  rintro e W6 ⟨v, rfl, hF⟩
  obtain ⟨g6, d6, rfl, _, hd6, hdm6, hM6, hb6⟩ := hF.open_ (spage_length three)
  have B6 := Lib.hid (B5.out.trans (hb6.mono B5.out.size))
  have S6 := Lib.hid (S5.out.keep hb6)
  have T6 := Lib.hid (T5.out.keep hb6)
  have P6 := Lib.hid (P5.out.keep hb6)
  have Q6 := Lib.hid hM6
  clear hF hM6 hb6 S5 T5 B5 P5
  have hd7 : (14 : Int) ≤ (d5 : Int) := by omega
  have hdn : ¬ d5 = 0 := by omega
  go_wp2_with fail
  have hb7 := (Below.refl W6.heap.size W6).alloc (Nat.le_refl _) (.cells #[.int .u8 6, .int .u8 0, .int .u8 0, .int .u8 0, .int .u8 0, .int .u8 0, .int .u8 0, .int .u8 0, .int .u8 2, .int .u8 0, .int .u8 0, .int .u8 0, .int .u8 16, .int .u8 0] 5)
  have R14 := ((P6.out.keep hb7).sub 0 14 (by omega)).reads
  rw [two_take] at R14
  refine (equal_any _ _ 14 14 d5 14 [6, 0, 0, 0, 0, 0, 0, 0, 2, 0, 0, 0, 16, 0] [6, 0, 0, 0, 0, 0, 0, 0, 2, 0, 0, 0, 16, 0] _ R14 (Blk8.new W6 [6, 0, 0, 0, 0, 0, 0, 0, 2, 0, 0, 0, 16, 0]).mem.reads).mono ?_
  rintro e w' ⟨rfl, rfl⟩
  rw [show same8 [6, 0, 0, 0, 0, 0, 0, 0, 2, 0, 0, 0, 16, 0] [6, 0, 0, 0, 0, 0, 0, 0, 2, 0, 0, 0, 16, 0] = true from by decide]
  obtain ⟨W7, hW7⟩ : ∃ W : World, W = W6.alloc (.cells #[.int .u8 6, .int .u8 0, .int .u8 0, .int .u8 0, .int .u8 0, .int .u8 0, .int .u8 0, .int .u8 0, .int .u8 2, .int .u8 0, .int .u8 0, .int .u8 0, .int .u8 16, .int .u8 0] 5) := ⟨_, rfl⟩
  have B7 := B6.out.trans (hb7.mono B6.out.size)
  have S7 := S6.out.keep hb7
  have T7 := T6.out.keep hb7
  have P7 := P6.out.keep hb7
  have Q7 := Q6.out.keep hb7
  clear R14 hb7
  go_upto_region 6 with fail
  rw [← hW7] at B7 S7 T7 P7 Q7 ⊢
  replace B7 := Lib.hid B7
  replace S7 := Lib.hid S7
  replace T7 := Lib.hid T7
  replace P7 := Lib.hid P7
  replace Q7 := Lib.hid Q7
  clear hW7 hd7 hdn B6 S6 T6 P6 Q6
  refine wp_region_lit ?_
  refine wl_load (.tmp 1) rfl (by rfl) w.heap.size two rfl S7.out ?_
  refine wl_new 7 (.tmp 52) rfl rfl rfl (by rfl) two rfl rfl (by rfl) fun W8 hb8 hm8 hs8 => ?_
  obtain ⟨c9, f9⟩ := hm8.gets 9 (.int .u32 0) rfl
  have M9 : MemC (W8.setCell ⟨W7.heap.size, 9, none⟩ (.int .u32 16)) W7.heap.size 0 (scells far) := by
    have := hm8.setAt 9 (by rw [scells_length]; decide) (.int .u32 16)
    rwa [far_cells] at this
  have hb9 : Below W7.heap.size W7 (W8.setCell ⟨W7.heap.size, 9, none⟩ (.int .u32 16)) := hb8.setCell (p := ⟨W7.heap.size, 9, none⟩) (Nat.le_refl _) _
  obtain ⟨W9, hW9⟩ : ∃ W : World, W = W8.setCell ⟨W7.heap.size, 9, none⟩ (.int .u32 16) := ⟨_, rfl⟩
  rw [← hW9] at M9 hb9
  have F9 := Lib.hid M9
  have B9 := Lib.hid (B7.out.trans (hb9.mono B7.out.size))
  have S9 := Lib.hid (S7.out.keep hb9)
  have T9 := Lib.hid (T7.out.keep hb9)
  have P9 := Lib.hid (P7.out.keep hb9)
  have Q9 := Lib.hid (Q7.out.keep hb9)
  have HW9 := Lib.hid hW9
  clear hW9 M9 hb9 hb8 hm8 hs8
  go_upto_region 8 with fail
  rw [← HW9.out]
  clear HW9 c9 f9 B7 S7 T7 P7 Q7
  generalize W7.heap.size = q7 at *
  refine wp_region_lit ?_
  refine wl_build1 _ rfl (by rfl) 16 rfl ?_
  refine wl_build2 _ _ rfl (by rfl) 1 15 rfl rfl ?_
  refine wl_load (.tmp 7) rfl (by rfl) q7 far rfl F9.out ?_
  refine wl_three (.tmp 55) (.tmp 56) (.tmp 57) rfl (by rfl) rfl rfl rfl fun W10 hb10 m0 m18 m36 => ?_
  have BA := Lib.hid (B9.out.trans (hb10.mono B9.out.size))
  have SA := Lib.hid (S9.out.keep hb10)
  have TA := Lib.hid (T9.out.keep hb10)
  have PA := Lib.hid (P9.out.keep hb10)
  have QA := Lib.hid (Q9.out.keep hb10)
  have E0 := Lib.hid m0
  have E1 := Lib.hid m18
  have E2 := Lib.hid m36
  generalize W9.heap.size = q9 at *
  clear hb10 m0 m18 m36 F9 B9 S9 T9 P9 Q9
  go_wp2_with fail
  go_loopw [60] (fun i wr => ∃ k : Nat, k ≤ 3 ∧ i = .int .i64 (k : Int) ∧ Below W10.heap.size W10 wr) (fun i _ => 3 - (intOf i).toNat)
  case atStart => exact ⟨0, Nat.zero_le _, rfl, Below.refl _ _⟩
  case round =>
    obtain ⟨k, hk, rfl, hb⟩ := hrel
    have KB := Lib.hid hb
    clear hb
    rcases (show k = 0 ∨ k = 1 ∨ k = 2 ∨ k = 3 by omega) with rfl | rfl | rfl | rfl
    · clear hk
      rw [show ((0 : Nat) : Int) = 0 from rfl]
      have EE := Lib.hid (E0.out.keep KB.out)
      go_wp2_with (first | refine wl_loadO (.tmp 62) rfl (by rfl) q9 0 (supL 0 16) rfl EE.out ?_ | refine wl_new 9 (.tmp 63) rfl rfl rfl (by rfl) (supL 0 16) rfl rfl (by rfl) ?_)
      intro X hbx hmx hsx
      have XB := Lib.hid (KB.out.trans (hbx.mono KB.out.size))
      have XM := Lib.hid hmx
      clear hbx hmx hsx
      go_wp2_with (refine wl_load (.tmp 9) rfl (by rfl) wr.heap.size (supL 0 16) rfl XM.out ?_)
      refine (encode_bad (supL 0 16) _ bad0).mono ?_
      rintro e Y ⟨rfl, hby⟩
      have YB := Lib.hid (XB.out.trans (hby.mono XB.out.size))
      clear hby
      go_wp2_with fail
      go_roundw
      case rel => exact ⟨0 + 1, by decide, rfl, YB.out⟩
      case measure => decide
    · clear hk
      rw [show ((1 : Nat) : Int) = 1 from rfl]
      have EE := Lib.hid (E1.out.keep KB.out)
      go_wp2_with (first | refine wl_loadO (.tmp 62) rfl (by rfl) q9 18 (supL 1 15) rfl EE.out ?_ | refine wl_new 9 (.tmp 63) rfl rfl rfl (by rfl) (supL 1 15) rfl rfl (by rfl) ?_)
      intro X hbx hmx hsx
      have XB := Lib.hid (KB.out.trans (hbx.mono KB.out.size))
      have XM := Lib.hid hmx
      clear hbx hmx hsx
      go_wp2_with (refine wl_load (.tmp 9) rfl (by rfl) wr.heap.size (supL 1 15) rfl XM.out ?_)
      refine (encode_bad (supL 1 15) _ bad1).mono ?_
      rintro e Y ⟨rfl, hby⟩
      have YB := Lib.hid (XB.out.trans (hby.mono XB.out.size))
      clear hby
      go_wp2_with fail
      go_roundw
      case rel => exact ⟨1 + 1, by decide, rfl, YB.out⟩
      case measure => decide
    · clear hk
      rw [show ((2 : Nat) : Int) = 2 from rfl]
      have EE := Lib.hid (E2.out.keep KB.out)
      go_wp2_with (first | refine wl_loadO (.tmp 62) rfl (by rfl) q9 36 (far) rfl EE.out ?_ | refine wl_new 9 (.tmp 63) rfl rfl rfl (by rfl) (far) rfl rfl (by rfl) ?_)
      intro X hbx hmx hsx
      have XB := Lib.hid (KB.out.trans (hbx.mono KB.out.size))
      have XM := Lib.hid hmx
      clear hbx hmx hsx
      go_wp2_with (refine wl_load (.tmp 9) rfl (by rfl) wr.heap.size (far) rfl XM.out ?_)
      refine (encode_bad (far) _ far_bad).mono ?_
      rintro e Y ⟨rfl, hby⟩
      have YB := Lib.hid (XB.out.trans (hby.mono XB.out.size))
      clear hby
      go_wp2_with fail
      go_roundw
      case rel => exact ⟨2 + 1, by decide, rfl, YB.out⟩
      case measure => decide
    · clear hk
      rw [show ((3 : Nat) : Int) = 3 from rfl]
      have B1 := Lib.hid (BA.out.trans (KB.out.mono BA.out.size))
      have S1 := Lib.hid (SA.out.keep KB.out)
      have T1 := Lib.hid (TA.out.keep KB.out)
      have P1 := Lib.hid (PA.out.keep KB.out)
      have Q1 := Lib.hid (QA.out.keep KB.out)
      clear BA SA TA PA QA E0 E1 E2 KB
      go_wp2_with fail
      refine (filled_zero _).mono ?_
      rintro e Wa ⟨v, rfl, hF⟩
      obtain ⟨ga, da, rfl, _, hda, hdma, hMa, hba⟩ := hF.open_ (n := 128) (by simp)
      have Ba := Lib.hid (B1.out.trans (hba.mono B1.out.size))
      have Sa := Lib.hid (S1.out.keep hba)
      have Ta := Lib.hid (T1.out.keep hba)
      have Pa := Lib.hid (P1.out.keep hba)
      have Qa := Lib.hid (Q1.out.keep hba)
      have Za := Lib.hid hMa
      clear hF hMa hba B1 S1 T1 P1 Q1
      go_wp2_with fail
      refine (pick_v _ _ 128 d5 128 d6 (spage two) (spage three) _ Pa.out.reads Qa.out.reads (by simp only [maxLen]; omega) hd5 (by simp only [maxLen]; omega) hd6).mono ?_
      rintro e Xb ⟨rfl, hbx⟩
      rw [pv1]
      go_wp2_with (refine wl_new 13 (.tmp 77) rfl rfl rfl (by rfl) three rfl rfl (by rfl) ?_)
      intro Wb hbw hmw hsw
      have hbb := hbx.trans (hbw.mono hbx.size)
      have Bb := Lib.hid (Ba.out.trans (hbb.mono Ba.out.size))
      have Sb := Lib.hid (Sa.out.keep hbb)
      have Tb := Lib.hid (Ta.out.keep hbb)
      have Pb := Lib.hid (Pa.out.keep hbb)
      have Qb := Lib.hid (Qa.out.keep hbb)
      have Zb := Lib.hid (Za.out.keep hbb)
      have N13b := Lib.hid hmw
      obtain ⟨y13, hy13⟩ : ∃ y, y = Xb.heap.size := ⟨_, rfl⟩
      rw [← hy13] at N13b ⊢
      clear hbx hbw hmw hsw hbb hy13 Ba Sa Ta Pa Qa Za
      go_wp2_with fail
      refine (pick_v _ _ 128 d5 128 da (spage two) (List.replicate 128 0) _ Pb.out.reads Zb.out.reads (by simp only [maxLen]; omega) hd5 (by simp only [maxLen]; omega) hda).mono ?_
      rintro e Xc ⟨rfl, hbx⟩
      rw [pv2]
      go_wp2_with (refine wl_new 16 (.tmp 84) rfl rfl rfl (by rfl) two rfl rfl (by rfl) ?_)
      intro Wc hbw hmw hsw
      have hbb := hbx.trans (hbw.mono hbx.size)
      have Bc := Lib.hid (Bb.out.trans (hbb.mono Bb.out.size))
      have Sc := Lib.hid (Sb.out.keep hbb)
      have Tc := Lib.hid (Tb.out.keep hbb)
      have Pc := Lib.hid (Pb.out.keep hbb)
      have Qc := Lib.hid (Qb.out.keep hbb)
      have Zc := Lib.hid (Zb.out.keep hbb)
      have N13c := Lib.hid (N13b.out.keep hbb)
      have N16c := Lib.hid hmw
      obtain ⟨y16, hy16⟩ : ∃ y, y = Xc.heap.size := ⟨_, rfl⟩
      rw [← hy16] at N16c ⊢
      clear hbx hbw hmw hsw hbb hy16 Bb Sb Tb Pb Qb Zb N13b
      go_wp2_with fail
      refine (pick_v _ _ 128 da 128 d5 (List.replicate 128 0) (spage two) _ Zc.out.reads Pc.out.reads (by simp only [maxLen]; omega) hda (by simp only [maxLen]; omega) hd5).mono ?_
      rintro e Xd ⟨rfl, hbx⟩
      rw [pv3]
      go_wp2_with (refine wl_new 19 (.tmp 91) rfl rfl rfl (by rfl) noS rfl rfl (by rfl) ?_)
      intro Wd hbw hmw hsw
      have hbb := hbx.trans (hbw.mono hbx.size)
      have Bd := Lib.hid (Bc.out.trans (hbb.mono Bc.out.size))
      have Sd := Lib.hid (Sc.out.keep hbb)
      have Td := Lib.hid (Tc.out.keep hbb)
      have Pd := Lib.hid (Pc.out.keep hbb)
      have Qd := Lib.hid (Qc.out.keep hbb)
      have Zd := Lib.hid (Zc.out.keep hbb)
      have N13d := Lib.hid (N13c.out.keep hbb)
      have N16d := Lib.hid (N16c.out.keep hbb)
      have N19d := Lib.hid hmw
      obtain ⟨y19, hy19⟩ : ∃ y, y = Xd.heap.size := ⟨_, rfl⟩
      rw [← hy19] at N19d ⊢
      clear hbx hbw hmw hsw hbb hy19 Bc Sc Tc Pc Qc Zc N13c N16c
      go_wp2_with (first | refine wl_load (.tmp 13) rfl (by rfl) y13 three rfl N13d.out ?_ | refine wl_load (.tmp 2) rfl (by rfl) q1 three rfl Td.out ?_ | refine wl_same (.tmp 105) (.tmp 106) _ rfl (by rfl) three rfl rfl ?_ | refine wl_load (.tmp 16) rfl (by rfl) y16 two rfl N16d.out ?_ | refine wl_load (.tmp 1) rfl (by rfl) w.heap.size two rfl Sd.out ?_ | refine wl_same (.tmp 114) (.tmp 115) _ rfl (by rfl) two rfl rfl ?_)
      refine (slot2 _).mono ?_
      rintro e w' ⟨rfl, rfl⟩
      go_wp2_with fail
      refine (slot3 _).mono ?_
      rintro e w' ⟨rfl, rfl⟩
      go_wp2_with fail
      go_ret
      exact ⟨rfl, Bd.out⟩

end Go.Proofs.Ytfnoeligaapnbaa
