/-
  SuperSlots: the walk.
-/
import Derived.Test.YtfnoeligaapnbaaSuV
namespace Go.Proofs.Ytfnoeligaapnbaa
open Go.RowKit Go.Shelf
set_option linter.unusedVariables false
set_option linter.unusedSimpArgs false
attribute [local go_sem ↓] Go.wp_at_zero Go.wp_at_succ

section
variable {s : Sup} {b : List UInt8}
theorem pS_own0 (h : rightS s = true) (h0 : s.gen.toNat % 2 = 0) (g : isSup b = false) : pickV (spage s) b = .tuple #[sval s, .int .i64 0, .int .i64 0] := by
  have e := pickV_p (p := spage s) (q := b) (by rw [isSup_page, h]) (by rw [supOf_page, h0]) (.inl g)
  rwa [supOf_page] at e
theorem pS_own1 (h : rightS s = true) (h0 : s.gen.toNat % 2 = 1) (g : isSup b = false) : pickV b (spage s) = .tuple #[sval s, .int .i64 1, .int .i64 0] := by
  have hg := right_gen h
  have e := pickV_q (p := b) (q := spage s) (by rw [isSup_page, h]) (by rw [supOf_page, h0]) (by rw [best1_no g, supOf_page]; exact hg)
  rwa [supOf_page] at e
theorem pS_wrong0 (h0 : s.gen.toNat % 2 = 0) (g : isSup b = false) : pickV b (spage s) = .tuple #[sval noS, .int .i64 0, .int .i64 60] := pickV_n (.inl g) (.inr (by rw [supOf_page, h0]))
theorem pS_wrong1 (h0 : s.gen.toNat % 2 = 1) (g : isSup b = false) : pickV (spage s) b = .tuple #[sval noS, .int .i64 0, .int .i64 60] := pickV_n (.inr (by rw [supOf_page, h0])) (.inl g)
theorem pS_both0 (h : rightS s = true) (h0 : s.gen.toNat % 2 = 0) : pickV (spage s) (spage s) = .tuple #[sval s, .int .i64 0, .int .i64 0] := by
  have e := pV_x h h0 (.inr (.inl ⟨h, h0⟩))
  rwa [(encL_good h).1] at e
theorem pS_both1 (h : rightS s = true) (h0 : s.gen.toNat % 2 = 1) : pickV (spage s) (spage s) = .tuple #[sval s, .int .i64 1, .int .i64 0] := by
  have e := pV_y h h0 (.inr (.inl ⟨h, h0⟩))
  rwa [(encL_good h).1] at e
end

/-- A pair of slices of which one is stored anew. -/
theorem MemC.setOther {W : World} {P q i : Nat} {xs : List Value} (h : MemC W P 0 xs) (hne : P ≠ q) (v : Value) : MemC (W.setCell ⟨q, i, none⟩ v) P 0 xs := h.other (Below.heap_setCell _ _ _ _ hne) (by simp [World.setCell])

set_option maxHeartbeats 8000000 in
set_option maxRecDepth 100000 in
theorem lawSlots (s : Sup) (B : Option Addr) (n c : Nat) (b : List UInt8) (w : World) (h : Reads8 w B n b) (hnc : n ≤ c) (hcm : c ≤ maxLen) :
    Calls Try.prog 7 #[sval s, .slice B n c] w fun e w' => e = .returned (.bool true) ∧ Below w.heap.size w w' := by
  have hnM : n ≤ maxLen := Nat.le_trans hnc hcm
  have L0 := Lib.hid h
  clear h
  go_enter Try.func7, Try.ntmps7
  go_upto_region 0 with fail
  refine wp_region_lit ?_
  refine wl_box (.tmp 0) rfl (by rfl) s rfl fun W1 hb1 hm1 hs1 => ?_
  have B1 := Lib.hid hb1
  have S1 := Lib.hid hm1
  have L1 := Lib.hid (L0.out.keep hb1)
  clear hb1 hm1 hs1 L0
  go_wp2_with (refine wl_load (.tmp 2) rfl (by rfl) w.heap.size s rfl S1.out ?_)
  refine (encode_u s _).mono ?_
  rintro e W2 ⟨A, m, d, rfl, hr, hmd, hb⟩
  have B2 := Lib.hid (B1.out.trans (hb.mono B1.out.size))
  have S2 := Lib.hid (S1.out.keep hb)
  have L2 := Lib.hid (L1.out.keep hb)
  have P2 := Lib.hid hr
  clear hb hr B1 S1 L1
  go_wp2_with fail
  refine (decode_any B n c b _ L2.out hnM hnc).mono ?_
  rintro e W3 ⟨rfl, hb3⟩
  go_wp2_with (refine wl_new 7 (.tmp 29) rfl rfl rfl (by rfl) (decS b) rfl rfl (by rfl) ?_)
  intro W4 hb4 hm4 hs4
  have hb := hb3.trans (hb4.mono hb3.size)
  have B4 := Lib.hid (B2.out.trans (hb.mono B2.out.size))
  have S4 := Lib.hid (S2.out.keep hb)
  have L4 := Lib.hid (L2.out.keep hb)
  have P4 := Lib.hid (P2.out.keep hb)
  obtain ⟨y7, hy⟩ : ∃ y, y = W3.heap.size := ⟨_, rfl⟩
  rw [← hy]
  clear hb hb3 hb4 hm4 hs4 hy B2 S2 L2 P2 W3
  cases hs : rightS s
  · rw [(encL_bad hs).2]
    clear hs
    go_wp2_with fail
    refine (awake_any _).mono ?_
    rintro e W5 ⟨rfl, hb⟩
    have B5 := Lib.hid (B4.out.trans (hb.mono B4.out.size))
    clear hb
    go_wp2_with fail
    go_ret
    exact ⟨rfl, B5.out⟩
  cases hd : isSup b
  rotate_left
  · have e1 : decE b = 0 := by unfold decE; rw [hd]; rfl
    rw [(encL_good hs).2, e1]
    clear hs hd e1
    go_wp2_with fail
    refine (awake_any _).mono ?_
    rintro e W5 ⟨rfl, hb⟩
    have B5 := Lib.hid (B4.out.trans (hb.mono B4.out.size))
    clear hb
    go_wp2_with fail
    go_ret
    exact ⟨rfl, B5.out⟩
  rw [(encL_good hs).2, (decS_no hd).2]
  rw [(encL_good hs).1] at P4
  have HS := Lib.hid hs
  have HD := Lib.hid hd
  clear hs hd
  by_cases h2 : (200 : Int) < (n : Int)
  · go_wp2_with fail
    refine (awake_any _).mono ?_
    rintro e W5 ⟨rfl, hb⟩
    have B5 := Lib.hid (B4.out.trans (hb.mono B4.out.size))
    clear hb
    go_wp2_with fail
    go_ret
    exact ⟨rfl, B5.out⟩
  have hm : m = 128 := by have := P4.out.1; rw [spage_length] at this; exact this.symm
  subst hm
  obtain ⟨g0, _⟩ := S4.out.gets 0 _ (scells_gen s)
  go_upto_region 6 with fail
  obtain ⟨W5, hW5⟩ : ∃ W : World, W = (W4.alloc (.cells #[.slice B n c, .slice B n c] 46)).alloc (.cells #[.slice B n c, .slice B n c] 46) := ⟨_, rfl⟩
  have b1 := (Below.refl W4.heap.size W4).alloc (Nat.le_refl _) (.cells #[.slice B n c, .slice B n c] 46)
  have b2 := (Below.refl (W4.alloc (.cells #[.slice B n c, .slice B n c] 46)).heap.size (W4.alloc (.cells #[.slice B n c, .slice B n c] 46))).alloc (Nat.le_refl _) (.cells #[.slice B n c, .slice B n c] 46)
  have m9 := (MemC.new W4 [.slice B n c, .slice B n c] 46).keep b2
  have m10 := MemC.new (W4.alloc (.cells #[.slice B n c, .slice B n c] 46)) [.slice B n c, .slice B n c] 46
  have hz : (W4.alloc (.cells #[.slice B n c, .slice B n c] 46)).heap.size = W4.heap.size + 1 := by simp
  rw [hz] at m10
  have hb : Below W4.heap.size W4 W5 := by rw [hW5]; exact b1.trans (b2.mono (by rw [hz]; omega))
  replace m9 : MemC W5 W4.heap.size 0 [.slice B n c, .slice B n c] := by rw [hW5]; exact m9
  replace m10 : MemC W5 (W4.heap.size + 1) 0 [.slice B n c, .slice B n c] := by rw [hW5]; exact m10
  rw [← hW5]
  have HB := Lib.hid hb
  have S5 := Lib.hid (S4.out.keep hb)
  have M9 := Lib.hid m9
  have M10 := Lib.hid m10
  have HN : Hid (W4.heap.size ≠ W4.heap.size + 1) := Lib.hid (by omega)
  clear hW5 b1 b2 m9 m10 hz hb g0 h2
  obtain ⟨g0, _⟩ := S5.out.gets 0 _ (scells_gen s)
  go_wp2_with fail
  refine (slot_any s.gen _).mono ?_
  rintro e w' ⟨rfl, rfl⟩
  clear g0
  have hpar : slotS s.gen.toNat = 0 ∨ slotS s.gen.toNat = 1 := by unfold slotS; omega
  rcases hpar with hk | hk
  · have HK : Hid (s.gen.toNat % 2 = 0) := Lib.hid hk
    rw [hk, show ((0 : Nat) : Int) = 0 from rfl]
    clear hk
    obtain ⟨a0, a1⟩ := M9.out.gets 0 _ rfl
    obtain ⟨d0, d1⟩ := M10.out.gets 1 _ rfl
    have d0' : (W5.setCell ⟨W4.heap.size, 0, none⟩ (.slice A 128 d)).cell? ⟨W4.heap.size + 1, 1, none⟩ = some (.slice B n c) := ((M10.out.setOther (fun e => HN.out e.symm) _).gets 1 _ rfl).1
    go_upto_region 8 with fail
    obtain ⟨W7, hW7⟩ : ∃ W : World, W = (W5.setCell ⟨W4.heap.size, 0, none⟩ (.slice A 128 d)).setCell ⟨W4.heap.size + 1, 1, none⟩ (.slice A 128 d) := ⟨_, rfl⟩
    have m9 : MemC W7 W4.heap.size 0 [.slice A 128 d, .slice B n c] := by rw [hW7]; exact (M9.out.setAt 0 (by simp) (.slice A 128 d)).setOther HN.out _
    have m10 : MemC W7 (W4.heap.size + 1) 0 [.slice B n c, .slice A 128 d] := by rw [hW7]; exact (M10.out.setOther (fun e => HN.out e.symm) _).setAt 1 (by simp) (.slice A 128 d)
    have hb : Below W4.heap.size W4 W7 := by rw [hW7]; exact (HB.out.setCell (p := ⟨W4.heap.size, 0, none⟩) (Nat.le_refl _) _).setCell (p := ⟨W4.heap.size + 1, 1, none⟩) (Nat.le_succ _) _
    rw [← hW7]
    have B7 := Lib.hid (B4.out.trans (hb.mono B4.out.size))
    have S7 := Lib.hid (S4.out.keep hb)
    have P7 := Lib.hid (P4.out.keep hb)
    have L7 := Lib.hid (L4.out.keep hb)
    have M97 := Lib.hid m9
    have M107 := Lib.hid m10
    clear a0 a1 d0 d1 d0' hb m9 m10 hW7 B4 S4 P4 L4 HB S5 M9 M10
    obtain ⟨e0, _⟩ := M97.out.gets 0 _ rfl
    obtain ⟨e1, _⟩ := M97.out.gets 1 _ rfl
    go_wp2_with fail
    refine (pick_v A B 128 d n c (spage s) b _ P7.out L7.out (by simp only [maxLen]; omega) hmd hnM hnc).mono ?_
    rintro e X ⟨rfl, hbx⟩
    rw [pS_own0 HS.out HK.out HD.out]
    clear e0 e1
    go_wp2_with (refine wl_new 12 (.tmp 65) rfl rfl rfl (by rfl) s rfl rfl (by rfl) ?_)
    intro Y hbw hmw hsw
    have hb := hbx.trans (hbw.mono hbx.size)
    have B8 := Lib.hid (B7.out.trans (hb.mono B7.out.size))
    have S8 := Lib.hid (S7.out.keep hb)
    have P8 := Lib.hid (P7.out.keep hb)
    have L8 := Lib.hid (L7.out.keep hb)
    have M98 := Lib.hid (M97.out.keep hb)
    have M108 := Lib.hid (M107.out.keep hb)
    have N12_8 := Lib.hid hmw
    obtain ⟨y12, hy⟩ : ∃ y, y = X.heap.size := ⟨_, rfl⟩
    rw [← hy] at N12_8 ⊢
    clear hb hbx hbw hmw hsw hy B7 S7 P7 L7 M97 M107 X
    obtain ⟨e0, _⟩ := M108.out.gets 0 _ rfl
    obtain ⟨e1, _⟩ := M108.out.gets 1 _ rfl
    go_wp2_with fail
    refine (pick_v B A n c 128 d b (spage s) _ L8.out P8.out hnM hnc (by simp only [maxLen]; omega) hmd).mono ?_
    rintro e X ⟨rfl, hbx⟩
    rw [pS_wrong0 HK.out HD.out]
    clear e0 e1
    go_wp2_with (refine wl_new 15 (.tmp 74) rfl rfl rfl (by rfl) noS rfl rfl (by rfl) ?_)
    intro Y hbw hmw hsw
    have hb := hbx.trans (hbw.mono hbx.size)
    have B9 := Lib.hid (B8.out.trans (hb.mono B8.out.size))
    have S9 := Lib.hid (S8.out.keep hb)
    have P9 := Lib.hid (P8.out.keep hb)
    have L9 := Lib.hid (L8.out.keep hb)
    have M99 := Lib.hid (M98.out.keep hb)
    have M109 := Lib.hid (M108.out.keep hb)
    have N12_9 := Lib.hid (N12_8.out.keep hb)
    have N15_9 := Lib.hid hmw
    obtain ⟨y15, hy⟩ : ∃ y, y = X.heap.size := ⟨_, rfl⟩
    rw [← hy] at N15_9 ⊢
    clear hb hbx hbw hmw hsw hy B8 S8 P8 L8 M98 M108 N12_8 X
    go_wp2_with fail
    refine (pick_v A A 128 d 128 d (spage s) (spage s) _ P9.out P9.out (by simp only [maxLen]; omega) hmd (by simp only [maxLen]; omega) hmd).mono ?_
    rintro e X ⟨rfl, hbx⟩
    rw [pS_both0 HS.out HK.out]
    go_wp2_with (refine wl_new 18 (.tmp 81) rfl rfl rfl (by rfl) s rfl rfl (by rfl) ?_)
    intro Y hbw hmw hsw
    have hb := hbx.trans (hbw.mono hbx.size)
    have B10 := Lib.hid (B9.out.trans (hb.mono B9.out.size))
    have S10 := Lib.hid (S9.out.keep hb)
    have P10 := Lib.hid (P9.out.keep hb)
    have L10 := Lib.hid (L9.out.keep hb)
    have M910 := Lib.hid (M99.out.keep hb)
    have M1010 := Lib.hid (M109.out.keep hb)
    have N12_10 := Lib.hid (N12_9.out.keep hb)
    have N15_10 := Lib.hid (N15_9.out.keep hb)
    have N18_10 := Lib.hid hmw
    obtain ⟨y18, hy⟩ : ∃ y, y = X.heap.size := ⟨_, rfl⟩
    rw [← hy] at N18_10 ⊢
    clear hb hbx hbw hmw hsw hy B9 S9 P9 L9 M99 M109 N12_9 N15_9 X
    go_wp2_with (first | refine wl_load (.tmp 12) rfl (by rfl) y12 s rfl N12_10.out ?_ | refine wl_load (.tmp 2) rfl (by rfl) w.heap.size s rfl S10.out ?_ | refine wl_same (.tmp 87) (.tmp 88) _ rfl (by rfl) s rfl rfl ?_ | refine wl_load (.tmp 15) rfl (by rfl) y15 noS rfl N15_10.out ?_ | refine wl_build0 rfl (by rfl) ?_ | refine wl_same (.tmp 101) (.tmp 102) _ rfl (by rfl) noS rfl rfl ?_ | refine wl_load (.tmp 18) rfl (by rfl) y18 s rfl N18_10.out ?_ | refine wl_same (.tmp 114) (.tmp 115) _ rfl (by rfl) s rfl rfl ?_)
    refine (awake_any _).mono ?_
    rintro e Wz ⟨rfl, hbz⟩
    have BZ := Lib.hid (B10.out.trans (hbz.mono B10.out.size))
    clear hbz
    go_wp2_with fail
    go_ret
    exact ⟨rfl, BZ.out⟩
  · have HK : Hid (s.gen.toNat % 2 = 1) := Lib.hid hk
    rw [hk, show ((1 : Nat) : Int) = 1 from rfl]
    clear hk
    obtain ⟨a0, a1⟩ := M9.out.gets 1 _ rfl
    obtain ⟨d0, d1⟩ := M10.out.gets 0 _ rfl
    have d0' : (W5.setCell ⟨W4.heap.size, 1, none⟩ (.slice A 128 d)).cell? ⟨W4.heap.size + 1, 0, none⟩ = some (.slice B n c) := ((M10.out.setOther (fun e => HN.out e.symm) _).gets 0 _ rfl).1
    go_upto_region 8 with fail
    obtain ⟨W7, hW7⟩ : ∃ W : World, W = (W5.setCell ⟨W4.heap.size, 1, none⟩ (.slice A 128 d)).setCell ⟨W4.heap.size + 1, 0, none⟩ (.slice A 128 d) := ⟨_, rfl⟩
    have m9 : MemC W7 W4.heap.size 0 [.slice B n c, .slice A 128 d] := by rw [hW7]; exact (M9.out.setAt 1 (by simp) (.slice A 128 d)).setOther HN.out _
    have m10 : MemC W7 (W4.heap.size + 1) 0 [.slice A 128 d, .slice B n c] := by rw [hW7]; exact (M10.out.setOther (fun e => HN.out e.symm) _).setAt 0 (by simp) (.slice A 128 d)
    have hb : Below W4.heap.size W4 W7 := by rw [hW7]; exact (HB.out.setCell (p := ⟨W4.heap.size, 1, none⟩) (Nat.le_refl _) _).setCell (p := ⟨W4.heap.size + 1, 0, none⟩) (Nat.le_succ _) _
    rw [← hW7]
    have B7 := Lib.hid (B4.out.trans (hb.mono B4.out.size))
    have S7 := Lib.hid (S4.out.keep hb)
    have P7 := Lib.hid (P4.out.keep hb)
    have L7 := Lib.hid (L4.out.keep hb)
    have M97 := Lib.hid m9
    have M107 := Lib.hid m10
    clear a0 a1 d0 d1 d0' hb m9 m10 hW7 B4 S4 P4 L4 HB S5 M9 M10
    obtain ⟨e0, _⟩ := M97.out.gets 0 _ rfl
    obtain ⟨e1, _⟩ := M97.out.gets 1 _ rfl
    go_wp2_with fail
    refine (pick_v B A n c 128 d b (spage s) _ L7.out P7.out hnM hnc (by simp only [maxLen]; omega) hmd).mono ?_
    rintro e X ⟨rfl, hbx⟩
    rw [pS_own1 HS.out HK.out HD.out]
    clear e0 e1
    go_wp2_with (refine wl_new 12 (.tmp 65) rfl rfl rfl (by rfl) s rfl rfl (by rfl) ?_)
    intro Y hbw hmw hsw
    have hb := hbx.trans (hbw.mono hbx.size)
    have B8 := Lib.hid (B7.out.trans (hb.mono B7.out.size))
    have S8 := Lib.hid (S7.out.keep hb)
    have P8 := Lib.hid (P7.out.keep hb)
    have L8 := Lib.hid (L7.out.keep hb)
    have M98 := Lib.hid (M97.out.keep hb)
    have M108 := Lib.hid (M107.out.keep hb)
    have N12_8 := Lib.hid hmw
    obtain ⟨y12, hy⟩ : ∃ y, y = X.heap.size := ⟨_, rfl⟩
    rw [← hy] at N12_8 ⊢
    clear hb hbx hbw hmw hsw hy B7 S7 P7 L7 M97 M107 X
    obtain ⟨e0, _⟩ := M108.out.gets 0 _ rfl
    obtain ⟨e1, _⟩ := M108.out.gets 1 _ rfl
    go_wp2_with fail
    refine (pick_v A B 128 d n c (spage s) b _ P8.out L8.out (by simp only [maxLen]; omega) hmd hnM hnc).mono ?_
    rintro e X ⟨rfl, hbx⟩
    rw [pS_wrong1 HK.out HD.out]
    clear e0 e1
    go_wp2_with (refine wl_new 15 (.tmp 74) rfl rfl rfl (by rfl) noS rfl rfl (by rfl) ?_)
    intro Y hbw hmw hsw
    have hb := hbx.trans (hbw.mono hbx.size)
    have B9 := Lib.hid (B8.out.trans (hb.mono B8.out.size))
    have S9 := Lib.hid (S8.out.keep hb)
    have P9 := Lib.hid (P8.out.keep hb)
    have L9 := Lib.hid (L8.out.keep hb)
    have M99 := Lib.hid (M98.out.keep hb)
    have M109 := Lib.hid (M108.out.keep hb)
    have N12_9 := Lib.hid (N12_8.out.keep hb)
    have N15_9 := Lib.hid hmw
    obtain ⟨y15, hy⟩ : ∃ y, y = X.heap.size := ⟨_, rfl⟩
    rw [← hy] at N15_9 ⊢
    clear hb hbx hbw hmw hsw hy B8 S8 P8 L8 M98 M108 N12_8 X
    go_wp2_with fail
    refine (pick_v A A 128 d 128 d (spage s) (spage s) _ P9.out P9.out (by simp only [maxLen]; omega) hmd (by simp only [maxLen]; omega) hmd).mono ?_
    rintro e X ⟨rfl, hbx⟩
    rw [pS_both1 HS.out HK.out]
    go_wp2_with (refine wl_new 18 (.tmp 81) rfl rfl rfl (by rfl) s rfl rfl (by rfl) ?_)
    intro Y hbw hmw hsw
    have hb := hbx.trans (hbw.mono hbx.size)
    have B10 := Lib.hid (B9.out.trans (hb.mono B9.out.size))
    have S10 := Lib.hid (S9.out.keep hb)
    have P10 := Lib.hid (P9.out.keep hb)
    have L10 := Lib.hid (L9.out.keep hb)
    have M910 := Lib.hid (M99.out.keep hb)
    have M1010 := Lib.hid (M109.out.keep hb)
    have N12_10 := Lib.hid (N12_9.out.keep hb)
    have N15_10 := Lib.hid (N15_9.out.keep hb)
    have N18_10 := Lib.hid hmw
    obtain ⟨y18, hy⟩ : ∃ y, y = X.heap.size := ⟨_, rfl⟩
    rw [← hy] at N18_10 ⊢
    clear hb hbx hbw hmw hsw hy B9 S9 P9 L9 M99 M109 N12_9 N15_9 X
    go_wp2_with (first | refine wl_load (.tmp 12) rfl (by rfl) y12 s rfl N12_10.out ?_ | refine wl_load (.tmp 2) rfl (by rfl) w.heap.size s rfl S10.out ?_ | refine wl_same (.tmp 87) (.tmp 88) _ rfl (by rfl) s rfl rfl ?_ | refine wl_load (.tmp 15) rfl (by rfl) y15 noS rfl N15_10.out ?_ | refine wl_build0 rfl (by rfl) ?_ | refine wl_same (.tmp 101) (.tmp 102) _ rfl (by rfl) noS rfl rfl ?_ | refine wl_load (.tmp 18) rfl (by rfl) y18 s rfl N18_10.out ?_ | refine wl_same (.tmp 114) (.tmp 115) _ rfl (by rfl) s rfl rfl ?_)
    refine (awake_any _).mono ?_
    rintro e Wz ⟨rfl, hbz⟩
    have BZ := Lib.hid (B10.out.trans (hbz.mono B10.out.size))
    clear hbz
    go_wp2_with fail
    go_ret
    exact ⟨rfl, BZ.out⟩

end Go.Proofs.Ytfnoeligaapnbaa
