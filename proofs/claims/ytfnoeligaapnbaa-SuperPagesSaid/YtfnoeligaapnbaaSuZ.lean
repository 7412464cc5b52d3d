/-
  SuperNext: the walk.
-/
import Derived.Test.YtfnoeligaapnbaaSuY
namespace Go.Proofs.Ytfnoeligaapnbaa
open Go.RowKit Go.Shelf
set_option linter.unusedVariables false
set_option linter.unusedSimpArgs false
attribute [local go_sem ↓] Go.wp_at_zero Go.wp_at_succ

theorem MemC.but {W W' : World} {P k : Nat} {xs : List Value} (h : MemC W P 0 xs) (hb : But k W W') (hne : P ≠ k) : MemC W' P 0 xs := h.other (hb.2.2.2.2 P hne) hb.1
theorem Mem8.but {W W' : World} {b n k : Nat} {l : List UInt8} (h : Mem8 W b 0 n l) (hb : But k W W') (hne : b ≠ k) : Mem8 W' b 0 n l :=
  ⟨h.len, by rw [hb.1]; exact h.lt, fun j hj => (World.cell?_of_block (w := W) (a := ⟨b, 0 + j, none⟩) (hb.2.2.2.2 b hne)).trans (h.cell j hj), fun j hj => (World.frozen?_of_block (w := W) (a := ⟨b, 0 + j, none⟩) (hb.2.2.2.2 b hne)).trans (h.free j hj)⟩
theorem gen_mod (s : Sup) : ((s.gen + 1).toNat : Int) = ((s.gen.toNat : Int) + 1) % 18446744073709551616 := by rw [← IntKind.wrap_u64', gen_wrap]
theorem equal_self (s : Sup) (w : World) : (Op.equalIn 10000 27 (.agg (scells s).toArray) (.agg (scells s).toArray)).run Try.prog w = .ok true w := by
  rw [equal_sup, (eqS_iff s s).2 rfl]
theorem slots_even {s t : Sup} (h : s.gen.toNat % 2 = 0) : slot0 s t = spage s ∧ slot1 s t = spage (nextS s t) := by unfold slot0 slot1; rw [if_pos h, if_pos h]; exact ⟨rfl, rfl⟩
theorem slots_odd {s t : Sup} (h : s.gen.toNat % 2 = 1) : slot0 s t = spage (nextS s t) ∧ slot1 s t = spage s := by unfold slot0 slot1; rw [if_neg (by omega), if_neg (by omega)]; exact ⟨rfl, rfl⟩
theorem pn_even {s t : Sup} (h1 : rightS s = true) (h2 : rightS (nextS s t) = true) (h : s.gen.toNat % 2 = 0) : pickV (spage s) (spage (nextS s t)) = .tuple #[sval (nextS s t), .int .i64 1, .int .i64 0] := by
  have g : (nextS s t).gen = s.gen + 1 := rfl
  have e := pV_y h2 (by rw [g, next_par]; omega) (.inr (.inr ⟨h1, h, next_gen s t h2⟩))
  rwa [(encL_good h1).1, (encL_good h2).1] at e
theorem pn_odd {s t : Sup} (h1 : rightS s = true) (h2 : rightS (nextS s t) = true) (h : s.gen.toNat % 2 = 1) : pickV (spage (nextS s t)) (spage s) = .tuple #[sval (nextS s t), .int .i64 0, .int .i64 0] := by
  have g : (nextS s t).gen = s.gen + 1 := rfl
  have e := pV_x h2 (by rw [g, next_par]; omega) (.inr (.inr ⟨h1, by have := next_gen s t h2; omega⟩))
  rwa [(encL_good h1).1, (encL_good h2).1] at e

set_option maxRecDepth 100000 in
theorem next_bad (s t : Sup) (a_ o_ y_ : Int) (w : World) (hg : ¬ (rightS s = true ∧ rightS (nextS s t) = true)) :
    Calls Try.prog 6 #[sval s, sval t, .int .u8 a_, .int .u8 o_, .int .u8 y_] w fun e w' => e = .returned (.bool true) ∧ Below w.heap.size w w' := by
  have HG := Lib.hid hg
  clear hg
  go_enter Try.func6, Try.ntmps6
  go_upto_region 0 with fail
  refine wp_region_lit ?_
  refine wl_box (.tmp 0) rfl (by rfl) s rfl fun W1 hb1 hm1 hs1 => ?_
  refine wl_box (.tmp 1) rfl (by rfl) t rfl fun W2 hb2 hm2 hs2 => ?_
  have B2 := Lib.hid (hb1.trans (hb2.mono hb1.size))
  have S2 := Lib.hid (hm1.keep hb2)
  have T2 := Lib.hid hm2
  clear hb1 hm1 hs1 hb2 hm2 hs2
  go_wp2_with (first | refine wl_load (.tmp 5) rfl (by rfl) w.heap.size s rfl S2.out ?_ | refine wl_load (.tmp 6) rfl (by rfl) W1.heap.size t rfl T2.out ?_)
  refine (whole_any s t _).mono ?_
  intro e W3 hP
  unfold wholeP at hP
  rw [if_neg HG.out] at hP
  obtain ⟨rfl, hb⟩ := hP
  have B3 := Lib.hid (B2.out.trans (hb.mono B2.out.size))
  clear hb B2 S2 T2
  go_wp2_with fail
  refine (awake_any _).mono ?_
  rintro e W4 ⟨rfl, hb⟩
  have B4 := Lib.hid ((B3.out.alloc B3.out.size (.cells #[.slice none 0 0, .slice none 0 0] 46)).trans (hb.mono (Nat.le_trans B3.out.size (by simp))))
  clear hb
  go_wp2_with fail
  go_ret
  exact ⟨rfl, B4.out⟩

set_option maxHeartbeats 8000000 in
set_option maxRecDepth 100000 in
theorem next_good (s t : Sup) (a_ o_ y_ : Int) (w : World) (hg1 : rightS s = true) (hg2 : rightS (nextS s t) = true) (ha0 : 0 ≤ a_) (ha1 : a_ ≤ 255) (ho0 : 0 ≤ o_) (ho1 : o_ ≤ 255) (hb0 : 0 ≤ y_) (hb1 : y_ ≤ 255) :
    Calls Try.prog 6 #[sval s, sval t, .int .u8 a_, .int .u8 o_, .int .u8 y_] w fun e w' => e = .returned (.bool true) ∧ Below w.heap.size w w' := by
  have HG1 := Lib.hid hg1
  have HG2 := Lib.hid hg2
  clear hg1 hg2
  have hi0 : 0 ≤ a_ % 128 := Int.emod_nonneg _ (by omega)
  have hi1 : a_ % 128 < 128 := Int.emod_lt_of_pos _ (by omega)
  have hj0 : 0 ≤ o_ % 128 := Int.emod_nonneg _ (by omega)
  have hj1 : o_ % 128 < 128 := Int.emod_lt_of_pos _ (by omega)
  have hy0 : 0 ≤ y_ % 255 := Int.emod_nonneg _ (by omega)
  have hy1 : y_ % 255 < 255 := Int.emod_lt_of_pos _ (by omega)
  go_enter Try.func6, Try.ntmps6
  go_upto_region 0 with fail
  refine wp_region_lit ?_
  refine wl_box (.tmp 0) rfl (by rfl) s rfl fun W1 hb1 hm1 hs1 => ?_
  refine wl_box (.tmp 1) rfl (by rfl) t rfl fun W2 hb2 hm2 hs2 => ?_
  have B2 := Lib.hid (hb1.trans (hb2.mono hb1.size))
  have S2 := Lib.hid (hm1.keep hb2)
  have T2 := Lib.hid hm2
  have HL1 : Hid (w.heap.size < W1.heap.size) := Lib.hid hm1.at_.lt
  clear hb1 hm1 hs1 hb2 hm2 hs2
  generalize W1.heap.size = q1 at *
  clear W1
  go_wp2_with (first | refine wl_load (.tmp 5) rfl (by rfl) w.heap.size s rfl S2.out ?_ | refine wl_load (.tmp 6) rfl (by rfl) q1 t rfl T2.out ?_)
  refine (whole_any s t _).mono ?_
  intro e W3 hP
  unfold wholeP at hP
  rw [if_pos ⟨HG1.out, HG2.out⟩] at hP
  obtain ⟨g0, c0, g1, c1, rfl, hg0, hg1, hne, hc0, hc1, hM0, hM1, hb⟩ := hP
  have B3 := Lib.hid (B2.out.trans (hb.mono B2.out.size))
  have S3 := Lib.hid (S2.out.keep hb)
  have T3 := Lib.hid (T2.out.keep hb)
  have P3 := Lib.hid hM0
  have Q3 := Lib.hid hM1
  have LP : Hid (q1 < g0) := Lib.hid (Nat.lt_of_lt_of_le T2.out.at_.lt hg0)
  have LQ : Hid (q1 < g1) := Lib.hid (Nat.lt_of_lt_of_le T2.out.at_.lt hg1)
  have LR : Hid (g0 < W3.heap.size ∧ g1 < W3.heap.size) := Lib.hid ⟨hM0.lt, hM1.lt⟩
  have LN := Lib.hid hne
  clear hb hM0 hM1 hg0 hg1 hne B2 S2 T2
  go_upto_region 4 with fail
  obtain ⟨W4, hW4⟩ : ∃ W : World, W = W3.alloc (.cells #[.slice (some ⟨g0, 0, none⟩) 128 c0, .slice (some ⟨g1, 0, none⟩) 128 c1] 46) := ⟨_, rfl⟩
  have hb : Below W3.heap.size W3 W4 := by rw [hW4]; exact (Below.refl _ W3).alloc (Nat.le_refl _) _
  have m11 : MemC W4 W3.heap.size 0 [.slice (some ⟨g0, 0, none⟩) 128 c0, .slice (some ⟨g1, 0, none⟩) 128 c1] := by rw [hW4]; exact MemC.new W3 [.slice (some ⟨g0, 0, none⟩) 128 c0, .slice (some ⟨g1, 0, none⟩) 128 c1] _
  rw [← hW4]
  have B4 := Lib.hid (B3.out.trans (hb.mono B3.out.size))
  have S4 := Lib.hid (S3.out.keep hb)
  have T4 := Lib.hid (T3.out.keep hb)
  have P4 := Lib.hid (P3.out.keep hb)
  have Q4 := Lib.hid (Q3.out.keep hb)
  have M4 := Lib.hid m11
  clear hb m11 hW4 B3 S3 T3 P3 Q3
  generalize W3.heap.size = q11 at *
  clear W3
  obtain ⟨sg, sf⟩ := S4.out.gets 0 _ (scells_gen s)
  have hnp := next_par s
  have hpar : s.gen.toNat % 2 = 0 ∨ s.gen.toNat % 2 = 1 := by omega
  rcases hpar with hk | hk
  · have es : slotS s.gen.toNat = 0 := hk
    have en : slotS (s.gen + 1).toNat = 1 := by unfold slotS; omega
    obtain ⟨hs0, hs1⟩ := @slots_even s t hk
    rw [hs0] at P4
    rw [hs1] at Q4
    have HK := Lib.hid hk
    clear hnp hs0 hs1 hk
    have hS : W4.drew.cell? ⟨w.heap.size, 0, none⟩ = some (.int .u64 (s.gen.toNat : Int)) := sg
    have S5 := Lib.hid S4.out.drew
    have T5 := Lib.hid T4.out.drew
    have P5 := Lib.hid P4.out.drew
    have Q5 := Lib.hid Q4.out.drew
    have M5 := Lib.hid M4.out.drew
    have B5 := Lib.hid B4.out.drew
    obtain ⟨W5, hW5⟩ : ∃ W : World, W = W4.drew := ⟨_, rfl⟩
    rw [← hW5] at hS S5 T5 P5 Q5 M5 B5
    have L5 : Hid (q11 < W5.heap.size) := Lib.hid M5.out.at_.lt
    clear sg sf S4 T4 P4 Q4 M4 B4
    refine wp_region_held_drew (S := fun w' => w'.cell? ⟨w.heap.size, 0, none⟩ = some (.int .u64 (s.gen.toNat : Int))) (by kernel_rfl) (by rw [← hW5]; exact hS) (fun hHeld => ?_)
    rw [← hW5] at hHeld ⊢
    clear hW5
    refine wpAnyH_take (i := 0) (v := .pointer (some ⟨w.heap.size, 0, none⟩)) rfl (by kernel_rfl) (by kernel_rfl) (by kernel_rfl) (fun _ _ _ h => h) (Or.inl ⟨by kernel_rfl, fun w _ => by go_simp⟩) hHeld ?_
    try simp only [Act.put, List.getElem_toArray, List.getElem_cons_succ, List.getElem_cons_zero, List.setIfInBounds_toArray, List.set_cons_zero, List.set_cons_succ]
    refine wpAnyH_take (i := 1) (v := .int .u64 (s.gen.toNat : Int)) rfl (by kernel_rfl) (by kernel_rfl) (by kernel_rfl) (fun _ _ _ h => h) (Or.inl ⟨by kernel_rfl, fun w h => by have hc := h; go_simp⟩) hHeld ?_
    try simp only [Act.put, List.getElem_toArray, List.getElem_cons_succ, List.getElem_cons_zero, List.setIfInBounds_toArray, List.set_cons_zero, List.set_cons_succ]
    refine wpAnyH_take (i := 2) (v := .int .u64 ((s.gen + 1).toNat : Int)) rfl (by kernel_rfl) (by kernel_rfl) (by kernel_rfl) (fun _ _ _ h => h) (Or.inl ⟨by kernel_rfl, fun w h => by go_simp; exact gen_mod s⟩) hHeld ?_
    try simp only [Act.put, List.getElem_toArray, List.getElem_cons_succ, List.getElem_cons_zero, List.setIfInBounds_toArray, List.set_cons_zero, List.set_cons_succ]
    refine wpAnyH_take (i := 4) (v := .pointer (some ⟨w.heap.size, 0, none⟩)) rfl (by kernel_rfl) (by kernel_rfl) (by kernel_rfl) (fun _ _ _ h => h) (Or.inl ⟨by kernel_rfl, fun w _ => by go_simp⟩) hHeld ?_
    try simp only [Act.put, List.getElem_toArray, List.getElem_cons_succ, List.getElem_cons_zero, List.setIfInBounds_toArray, List.set_cons_zero, List.set_cons_succ]
    refine wpAnyH_take (i := 5) (v := .int .u64 (s.gen.toNat : Int)) rfl (by kernel_rfl) (by kernel_rfl) (by kernel_rfl) (fun _ _ _ h => h) (Or.inl ⟨by kernel_rfl, fun w h => by have hc := h; go_simp⟩) hHeld ?_
    try simp only [Act.put, List.getElem_toArray, List.getElem_cons_succ, List.getElem_cons_zero, List.setIfInBounds_toArray, List.set_cons_zero, List.set_cons_succ]
    refine wpAnyH_ready (rs := [3]) (by kernel_rfl) (by simp) ?_
    refine AllReadyH.cons rfl (fun K hK => ?_) AllReadyH.nil
    go_simp
    go_at_call 21
    refine (slot_any (s.gen + 1) _).mono ?_
    rintro e w' ⟨rfl, rfl⟩
    rw [en]
    refine hK.out _ _ hHeld (fun hHeld => ?_)
    try simp only [Act.put, List.getElem_toArray, List.getElem_cons_succ, List.getElem_cons_zero, List.setIfInBounds_toArray, List.set_cons_zero, List.set_cons_succ]
    refine wpAnyH_ready (rs := [6]) (by kernel_rfl) (by simp) ?_
    refine AllReadyH.cons rfl (fun K hK => ?_) AllReadyH.nil
    go_simp
    go_at_call 21
    refine (slot_any s.gen _).mono ?_
    rintro e w' ⟨rfl, rfl⟩
    rw [es]
    refine hK.out _ _ hHeld (fun hHeld => ?_)
    try simp only [Act.put, List.getElem_toArray, List.getElem_cons_succ, List.getElem_cons_zero, List.setIfInBounds_toArray, List.set_cons_zero, List.set_cons_succ]
    refine wpAnyH_take (i := 7) (v := .int .i64 1) rfl (by kernel_rfl) (by kernel_rfl) (by kernel_rfl) (fun _ _ _ h => h) (Or.inl ⟨by kernel_rfl, fun w _ => by go_simp⟩) hHeld ?_
    try simp only [Act.put, List.getElem_toArray, List.getElem_cons_succ, List.getElem_cons_zero, List.setIfInBounds_toArray, List.set_cons_zero, List.set_cons_succ]
    refine wpAnyH_take (i := 8) (v := .int .i64 0) rfl (by kernel_rfl) (by kernel_rfl) (by kernel_rfl) (fun _ _ _ h => h) (Or.inl ⟨by kernel_rfl, fun w _ => by go_simp⟩) hHeld ?_
    try simp only [Act.put, List.getElem_toArray, List.getElem_cons_succ, List.getElem_cons_zero, List.setIfInBounds_toArray, List.set_cons_zero, List.set_cons_succ]
    refine wpAnyH_done (by kernel_rfl) ?_ _
    clear hHeld hS es en
    obtain ⟨e0, _⟩ := M5.out.gets 0 _ rfl
    obtain ⟨e1, _⟩ := M5.out.gets 1 _ rfl
    go_wp2_with fail
    refine (pick_v _ _ 128 c0 128 c1 (spage s) (spage (nextS s t)) _ P5.out.reads Q5.out.reads (by simp only [maxLen]; omega) hc0 (by simp only [maxLen]; omega) hc1).mono ?_
    rintro e X ⟨rfl, hbx⟩
    rw [pn_even HG1.out HG2.out HK.out]
    clear e0 e1
    go_wp2_with (refine wl_new 15 (.tmp 40) rfl rfl rfl (by rfl) (nextS s t) rfl rfl (by rfl) ?_)
    intro Y hbw hmw hsw
    have hb := hbx.trans (hbw.mono hbx.size)
    have B6 := Lib.hid (B5.out.trans (hb.mono B5.out.size))
    have S6 := Lib.hid (S5.out.keep hb)
    have T6 := Lib.hid (T5.out.keep hb)
    have P6 := Lib.hid (P5.out.keep hb)
    have Q6 := Lib.hid (Q5.out.keep hb)
    have M6 := Lib.hid (M5.out.keep hb)
    have N6 := Lib.hid hmw
    have L6 : Hid (q11 < X.heap.size) := Lib.hid (Nat.lt_of_lt_of_le L5.out hbx.size)
    obtain ⟨y15, hy⟩ : ∃ y, y = X.heap.size := ⟨_, rfl⟩
    rw [← hy] at N6 L6 ⊢
    clear hb hbx hbw hmw hsw hy B5 S5 T5 P5 Q5 M5 L5 X
    obtain ⟨sg, sf⟩ := S6.out.gets 0 _ (scells_gen s)
    obtain ⟨tg, tf⟩ := T6.out.gets 0 _ (scells_gen t)
    go_upto_region 7 with fail
    rw [gen_wrap]
    obtain ⟨W7, hW7⟩ : ∃ W : World, W = Y.setCell ⟨q1, 0, none⟩ (.int .u64 ((s.gen + 1).toNat : Int)) := ⟨_, rfl⟩
    have hb : But q1 Y W7 := by rw [hW7]; exact ⟨by simp [World.setCell], rfl, rfl, rfl, fun j hj => Below.heap_setCell _ _ _ _ hj⟩
    have T7 := Lib.hid (show MemC W7 q1 0 (scells (nextS s t)) by rw [hW7, ← scells_next]; exact T6.out.setAt 0 (by rw [scells_length]; decide) _)
    have hl1 := HL1.out
    have hl2 := LP.out
    have hl3 := LQ.out
    have hl4 := LR.out
    have hl6 := L6.out
    have B7 := Lib.hid (B6.out.trans (hb.below (Nat.le_of_lt hl1)))
    have S7 := Lib.hid (S6.out.but hb (by omega))
    have M7 := Lib.hid (M6.out.but hb (by omega))
    have N7 := Lib.hid (N6.out.but hb (by omega))
    have P7 := Lib.hid (P6.out.but hb (by omega))
    have Q7 := Lib.hid (Q6.out.but hb (by omega))
    rw [← hW7]
    clear hW7 hb sg sf tg tf B6 S6 T6 P6 Q6 M6 N6 Y hl1 hl2 hl3 hl4 hl6
    obtain ⟨e0, _⟩ := M7.out.gets 1 _ rfl
    have hlenL := Q7.out.len
    obtain ⟨x, hx⟩ : ∃ x, (spage (nextS s t))[(a_ % 128).toNat]? = some x := ⟨_, List.getElem?_eq_getElem (by rw [spage_length]; omega)⟩
    obtain ⟨cx, fx⟩ := Q7.out.byte _ x hx
    have hxl := UInt8.toNat_lt x
    have HX := Lib.hid hx
    clear hx hlenL
    go_upto_region 9 with (first | ((with_reducible refine wl_load (.tmp 15) ?_ ?_ y15 (nextS s t) ?_ N7.out ?_); rfl; rfl; rfl) | ((with_reducible refine wl_load (.tmp 6) ?_ ?_ q1 (nextS s t) ?_ T7.out ?_); rfl; rfl; rfl) | ((with_reducible refine wl_nsame (.tmp 55) (.tmp 56) 27 ?_ ?_ (nextS s t) ?_ ?_ ?_); rfl; rfl; rfl; rfl))
    go_upto_region 10 with fail
    obtain ⟨z, hz, ez⟩ := byte_bump x (y_ % 255) hy0 hy1
    rw [ez]
    obtain ⟨W9, hW9⟩ : ∃ W : World, W = W7.setCell ⟨g1, (a_ % 128).toNat, none⟩ (.int .u8 (z.toNat : Int)) := ⟨_, rfl⟩
    have hb : But g1 W7 W9 := by rw [hW9]; exact ⟨by simp [World.setCell], rfl, rfl, rfl, fun j hj => Below.heap_setCell _ _ _ _ hj⟩
    have hl1 := HL1.out
    have hl2 := LP.out
    have hl3 := LQ.out
    have hl4 := LR.out
    have hl6 := L6.out
    have hln := LN.out
    have B9 := Lib.hid (B7.out.trans (hb.below (by omega)))
    have S9 := Lib.hid (S7.out.but hb (by omega))
    have T9 := Lib.hid (T7.out.but hb (by omega))
    have M9 := Lib.hid (M7.out.but hb (by omega))
    have N9 := Lib.hid (N7.out.but hb (by omega))
    have P9 := Lib.hid (P7.out.but hb (by omega))
    have Q9 := Lib.hid (show Mem8 W9 g1 0 128 ((spage (nextS s t)).set (a_ % 128).toNat z) by rw [hW9]; exact Q7.out.set (a_ % 128).toNat z (by omega))
    have noL : isSup ((spage (nextS s t)).set (a_ % 128).toNat z) = false := isSup_set _ _ _ (by rw [spage_length]; omega) (by rw [(List.getElem?_eq_some_iff.1 HX.out).2]; exact hz)
    have NOL := Lib.hid noL
    rw [← hW9]
    clear hW9 hb noL hz ez cx fx hxl HX e0 hl1 hl2 hl3 hl4 hl6 hln B7 S7 T7 P7 Q7 M7 N7
    generalize hpgL : (spage (nextS s t)).set (a_ % 128).toNat z = pgL at *
    clear hpgL
    obtain ⟨e0, _⟩ := M9.out.gets 0 _ rfl
    obtain ⟨e1, _⟩ := M9.out.gets 1 _ rfl
    go_wp2_with fail
    refine (pick_v _ _ 128 c0 128 c1 (spage s) (pgL) _ P9.out.reads Q9.out.reads (by simp only [maxLen]; omega) hc0 (by simp only [maxLen]; omega) hc1).mono ?_
    rintro e X ⟨rfl, hbx⟩
    rw [pS_own0 HG1.out HK.out NOL.out]
    clear e0 e1
    have N_ := N9.out.keep hbx
    have hyx : y15 < X.heap.size := N_.at_.lt
    go_wp2_with (refine wl_store (.tmp 15) (.tmp 82) rfl (by rfl) y15 (nextS s t) (s) rfl rfl N_ ?_)
    intro W10 hbu hmu
    have hl1 := HL1.out
    have hl2 := LP.out
    have hl3 := LQ.out
    have hl4 := LR.out
    have hl6 := L6.out
    have B10 := Lib.hid ((B9.out.trans (hbx.mono B9.out.size)).trans (hbu.below (by omega)))
    have S10 := Lib.hid ((S9.out.keep hbx).but hbu (by omega))
    have T10 := Lib.hid ((T9.out.keep hbx).but hbu (by omega))
    have P10 := Lib.hid ((P9.out.keep hbx).but hbu (by omega))
    have Q10 := Lib.hid ((Q9.out.keep hbx).but hbu (by omega))
    have M10 := Lib.hid ((M9.out.keep hbx).but hbu (by omega))
    have N10 := Lib.hid hmu
    clear hbu hmu hbx hyx N_ hl1 hl2 hl3 hl4 hl6 X B9 S9 T9 P9 Q9 M9 N9
    obtain ⟨e0, _⟩ := M10.out.gets 0 _ rfl
    have hlenE := P10.out.len
    obtain ⟨x, hx⟩ : ∃ x, (spage s)[(o_ % 128).toNat]? = some x := ⟨_, List.getElem?_eq_getElem (by rw [spage_length]; omega)⟩
    obtain ⟨cx, fx⟩ := P10.out.byte _ x hx
    have hxl := UInt8.toNat_lt x
    have HX := Lib.hid hx
    clear hx hlenE
    go_upto_region 13 with (first | ((with_reducible refine wl_load (.tmp 15) ?_ ?_ y15 (s) ?_ N10.out ?_); rfl; rfl; rfl) | ((with_reducible refine wl_load (.tmp 5) ?_ ?_ w.heap.size (s) ?_ S10.out ?_); rfl; rfl; rfl) | ((with_reducible refine wl_nsame (.tmp 93) (.tmp 94) 27 ?_ ?_ (s) ?_ ?_ ?_); rfl; rfl; rfl; rfl))
    go_upto_region 14 with fail
    obtain ⟨z, hz, ez⟩ := byte_bump x (y_ % 255) hy0 hy1
    rw [ez]
    obtain ⟨W13, hW13⟩ : ∃ W : World, W = W10.setCell ⟨g0, (o_ % 128).toNat, none⟩ (.int .u8 (z.toNat : Int)) := ⟨_, rfl⟩
    have hb : But g0 W10 W13 := by rw [hW13]; exact ⟨by simp [World.setCell], rfl, rfl, rfl, fun j hj => Below.heap_setCell _ _ _ _ hj⟩
    have hl1 := HL1.out
    have hl2 := LP.out
    have hl3 := LQ.out
    have hl4 := LR.out
    have hl6 := L6.out
    have hln := LN.out
    have B13 := Lib.hid (B10.out.trans (hb.below (by omega)))
    have S13 := Lib.hid (S10.out.but hb (by omega))
    have T13 := Lib.hid (T10.out.but hb (by omega))
    have M13 := Lib.hid (M10.out.but hb (by omega))
    have N13 := Lib.hid (N10.out.but hb (by omega))
    have Q13 := Lib.hid (Q10.out.but hb (by omega))
    have P13 := Lib.hid (show Mem8 W13 g0 0 128 ((spage s).set (o_ % 128).toNat z) by rw [hW13]; exact P10.out.set (o_ % 128).toNat z (by omega))
    have noE : isSup ((spage s).set (o_ % 128).toNat z) = false := isSup_set _ _ _ (by rw [spage_length]; omega) (by rw [(List.getElem?_eq_some_iff.1 HX.out).2]; exact hz)
    have NOE := Lib.hid noE
    rw [← hW13]
    clear hW13 hb noE hz ez cx fx hxl HX e0 hl1 hl2 hl3 hl4 hl6 hln B10 S10 T10 P10 Q10 M10 N10
    generalize hpgE : (spage s).set (o_ % 128).toNat z = pgE at *
    clear hpgE
    obtain ⟨e0, _⟩ := M13.out.gets 0 _ rfl
    obtain ⟨e1, _⟩ := M13.out.gets 1 _ rfl
    go_wp2_with fail
    refine (pick_v _ _ 128 c0 128 c1 (pgE) (pgL) _ P13.out.reads Q13.out.reads (by simp only [maxLen]; omega) hc0 (by simp only [maxLen]; omega) hc1).mono ?_
    rintro e X ⟨rfl, hbx⟩
    rw [pickV_n (.inl NOE.out) (.inl NOL.out)]
    clear e0 e1
    have N_ := N13.out.keep hbx
    have hyx : y15 < X.heap.size := N_.at_.lt
    go_wp2_with (refine wl_store (.tmp 15) (.tmp 115) rfl (by rfl) y15 (s) (noS) rfl rfl N_ ?_)
    intro W14 hbu hmu
    have hl1 := HL1.out
    have hl2 := LP.out
    have hl3 := LQ.out
    have hl4 := LR.out
    have hl6 := L6.out
    have B14 := Lib.hid ((B13.out.trans (hbx.mono B13.out.size)).trans (hbu.below (by omega)))
    have S14 := Lib.hid ((S13.out.keep hbx).but hbu (by omega))
    have T14 := Lib.hid ((T13.out.keep hbx).but hbu (by omega))
    have P14 := Lib.hid ((P13.out.keep hbx).but hbu (by omega))
    have Q14 := Lib.hid ((Q13.out.keep hbx).but hbu (by omega))
    have M14 := Lib.hid ((M13.out.keep hbx).but hbu (by omega))
    have N14 := Lib.hid hmu
    clear hbu hmu hbx hyx N_ hl1 hl2 hl3 hl4 hl6 X B13 S13 T13 P13 Q13 M13 N13
    go_wp2_with (first | ((with_reducible refine wl_load (.tmp 15) ?_ ?_ y15 (noS) ?_ N14.out ?_); rfl; rfl; rfl) | ((with_reducible refine wl_build0 ?_ ?_ ?_); rfl; rfl) | ((with_reducible refine wl_same (.tmp 125) (.tmp 126) 27 ?_ ?_ (noS) ?_ ?_ ?_); rfl; rfl; rfl; rfl))
    refine (awake_any _).mono ?_
    rintro e Wz ⟨rfl, hbz⟩
    have BZ := Lib.hid (B14.out.trans (hbz.mono B14.out.size))
    clear hbz
    go_wp2_with fail
    go_ret
    exact ⟨rfl, BZ.out⟩
  · have es : slotS s.gen.toNat = 1 := hk
    have en : slotS (s.gen + 1).toNat = 0 := by unfold slotS; omega
    obtain ⟨hs0, hs1⟩ := @slots_odd s t hk
    rw [hs0] at P4
    rw [hs1] at Q4
    have HK := Lib.hid hk
    clear hnp hs0 hs1 hk
    have hS : W4.drew.cell? ⟨w.heap.size, 0, none⟩ = some (.int .u64 (s.gen.toNat : Int)) := sg
    have S5 := Lib.hid S4.out.drew
    have T5 := Lib.hid T4.out.drew
    have P5 := Lib.hid P4.out.drew
    have Q5 := Lib.hid Q4.out.drew
    have M5 := Lib.hid M4.out.drew
    have B5 := Lib.hid B4.out.drew
    obtain ⟨W5, hW5⟩ : ∃ W : World, W = W4.drew := ⟨_, rfl⟩
    rw [← hW5] at hS S5 T5 P5 Q5 M5 B5
    have L5 : Hid (q11 < W5.heap.size) := Lib.hid M5.out.at_.lt
    clear sg sf S4 T4 P4 Q4 M4 B4
    refine wp_region_held_drew (S := fun w' => w'.cell? ⟨w.heap.size, 0, none⟩ = some (.int .u64 (s.gen.toNat : Int))) (by kernel_rfl) (by rw [← hW5]; exact hS) (fun hHeld => ?_)
    rw [← hW5] at hHeld ⊢
    clear hW5
    refine wpAnyH_take (i := 0) (v := .pointer (some ⟨w.heap.size, 0, none⟩)) rfl (by kernel_rfl) (by kernel_rfl) (by kernel_rfl) (fun _ _ _ h => h) (Or.inl ⟨by kernel_rfl, fun w _ => by go_simp⟩) hHeld ?_
    try simp only [Act.put, List.getElem_toArray, List.getElem_cons_succ, List.getElem_cons_zero, List.setIfInBounds_toArray, List.set_cons_zero, List.set_cons_succ]
    refine wpAnyH_take (i := 1) (v := .int .u64 (s.gen.toNat : Int)) rfl (by kernel_rfl) (by kernel_rfl) (by kernel_rfl) (fun _ _ _ h => h) (Or.inl ⟨by kernel_rfl, fun w h => by have hc := h; go_simp⟩) hHeld ?_
    try simp only [Act.put, List.getElem_toArray, List.getElem_cons_succ, List.getElem_cons_zero, List.setIfInBounds_toArray, List.set_cons_zero, List.set_cons_succ]
    refine wpAnyH_take (i := 2) (v := .int .u64 ((s.gen + 1).toNat : Int)) rfl (by kernel_rfl) (by kernel_rfl) (by kernel_rfl) (fun _ _ _ h => h) (Or.inl ⟨by kernel_rfl, fun w h => by go_simp; exact gen_mod s⟩) hHeld ?_
    try simp only [Act.put, List.getElem_toArray, List.getElem_cons_succ, List.getElem_cons_zero, List.setIfInBounds_toArray, List.set_cons_zero, List.set_cons_succ]
    refine wpAnyH_take (i := 4) (v := .pointer (some ⟨w.heap.size, 0, none⟩)) rfl (by kernel_rfl) (by kernel_rfl) (by kernel_rfl) (fun _ _ _ h => h) (Or.inl ⟨by kernel_rfl, fun w _ => by go_simp⟩) hHeld ?_
    try simp only [Act.put, List.getElem_toArray, List.getElem_cons_succ, List.getElem_cons_zero, List.setIfInBounds_toArray, List.set_cons_zero, List.set_cons_succ]
    refine wpAnyH_take (i := 5) (v := .int .u64 (s.gen.toNat : Int)) rfl (by kernel_rfl) (by kernel_rfl) (by kernel_rfl) (fun _ _ _ h => h) (Or.inl ⟨by kernel_rfl, fun w h => by have hc := h; go_simp⟩) hHeld ?_
    try simp only [Act.put, List.getElem_toArray, List.getElem_cons_succ, List.getElem_cons_zero, List.setIfInBounds_toArray, List.set_cons_zero, List.set_cons_succ]
    refine wpAnyH_ready (rs := [3]) (by kernel_rfl) (by simp) ?_
    refine AllReadyH.cons rfl (fun K hK => ?_) AllReadyH.nil
    go_simp
    go_at_call 21
    refine (slot_any (s.gen + 1) _).mono ?_
    rintro e w' ⟨rfl, rfl⟩
    rw [en]
    refine hK.out _ _ hHeld (fun hHeld => ?_)
    try simp only [Act.put, List.getElem_toArray, List.getElem_cons_succ, List.getElem_cons_zero, List.setIfInBounds_toArray, List.set_cons_zero, List.set_cons_succ]
    refine wpAnyH_ready (rs := [6]) (by kernel_rfl) (by simp) ?_
    refine AllReadyH.cons rfl (fun K hK => ?_) AllReadyH.nil
    go_simp
    go_at_call 21
    refine (slot_any s.gen _).mono ?_
    rintro e w' ⟨rfl, rfl⟩
    rw [es]
    refine hK.out _ _ hHeld (fun hHeld => ?_)
    try simp only [Act.put, List.getElem_toArray, List.getElem_cons_succ, List.getElem_cons_zero, List.setIfInBounds_toArray, List.set_cons_zero, List.set_cons_succ]
    refine wpAnyH_take (i := 7) (v := .int .i64 0) rfl (by kernel_rfl) (by kernel_rfl) (by kernel_rfl) (fun _ _ _ h => h) (Or.inl ⟨by kernel_rfl, fun w _ => by go_simp⟩) hHeld ?_
    try simp only [Act.put, List.getElem_toArray, List.getElem_cons_succ, List.getElem_cons_zero, List.setIfInBounds_toArray, List.set_cons_zero, List.set_cons_succ]
    refine wpAnyH_take (i := 8) (v := .int .i64 1) rfl (by kernel_rfl) (by kernel_rfl) (by kernel_rfl) (fun _ _ _ h => h) (Or.inl ⟨by kernel_rfl, fun w _ => by go_simp⟩) hHeld ?_
    try simp only [Act.put, List.getElem_toArray, List.getElem_cons_succ, List.getElem_cons_zero, List.setIfInBounds_toArray, List.set_cons_zero, List.set_cons_succ]
    refine wpAnyH_done (by kernel_rfl) ?_ _
    clear hHeld hS es en
    obtain ⟨e0, _⟩ := M5.out.gets 0 _ rfl
    obtain ⟨e1, _⟩ := M5.out.gets 1 _ rfl
    go_wp2_with fail
    refine (pick_v _ _ 128 c0 128 c1 (spage (nextS s t)) (spage s) _ P5.out.reads Q5.out.reads (by simp only [maxLen]; omega) hc0 (by simp only [maxLen]; omega) hc1).mono ?_
    rintro e X ⟨rfl, hbx⟩
    rw [pn_odd HG1.out HG2.out HK.out]
    clear e0 e1
    go_wp2_with (refine wl_new 15 (.tmp 40) rfl rfl rfl (by rfl) (nextS s t) rfl rfl (by rfl) ?_)
    intro Y hbw hmw hsw
    have hb := hbx.trans (hbw.mono hbx.size)
    have B6 := Lib.hid (B5.out.trans (hb.mono B5.out.size))
    have S6 := Lib.hid (S5.out.keep hb)
    have T6 := Lib.hid (T5.out.keep hb)
    have P6 := Lib.hid (P5.out.keep hb)
    have Q6 := Lib.hid (Q5.out.keep hb)
    have M6 := Lib.hid (M5.out.keep hb)
    have N6 := Lib.hid hmw
    have L6 : Hid (q11 < X.heap.size) := Lib.hid (Nat.lt_of_lt_of_le L5.out hbx.size)
    obtain ⟨y15, hy⟩ : ∃ y, y = X.heap.size := ⟨_, rfl⟩
    rw [← hy] at N6 L6 ⊢
    clear hb hbx hbw hmw hsw hy B5 S5 T5 P5 Q5 M5 L5 X
    obtain ⟨sg, sf⟩ := S6.out.gets 0 _ (scells_gen s)
    obtain ⟨tg, tf⟩ := T6.out.gets 0 _ (scells_gen t)
    go_upto_region 7 with fail
    rw [gen_wrap]
    obtain ⟨W7, hW7⟩ : ∃ W : World, W = Y.setCell ⟨q1, 0, none⟩ (.int .u64 ((s.gen + 1).toNat : Int)) := ⟨_, rfl⟩
    have hb : But q1 Y W7 := by rw [hW7]; exact ⟨by simp [World.setCell], rfl, rfl, rfl, fun j hj => Below.heap_setCell _ _ _ _ hj⟩
    have T7 := Lib.hid (show MemC W7 q1 0 (scells (nextS s t)) by rw [hW7, ← scells_next]; exact T6.out.setAt 0 (by rw [scells_length]; decide) _)
    have hl1 := HL1.out
    have hl2 := LP.out
    have hl3 := LQ.out
    have hl4 := LR.out
    have hl6 := L6.out
    have B7 := Lib.hid (B6.out.trans (hb.below (Nat.le_of_lt hl1)))
    have S7 := Lib.hid (S6.out.but hb (by omega))
    have M7 := Lib.hid (M6.out.but hb (by omega))
    have N7 := Lib.hid (N6.out.but hb (by omega))
    have P7 := Lib.hid (P6.out.but hb (by omega))
    have Q7 := Lib.hid (Q6.out.but hb (by omega))
    rw [← hW7]
    clear hW7 hb sg sf tg tf B6 S6 T6 P6 Q6 M6 N6 Y hl1 hl2 hl3 hl4 hl6
    obtain ⟨e0, _⟩ := M7.out.gets 0 _ rfl
    have hlenL := P7.out.len
    obtain ⟨x, hx⟩ : ∃ x, (spage (nextS s t))[(a_ % 128).toNat]? = some x := ⟨_, List.getElem?_eq_getElem (by rw [spage_length]; omega)⟩
    obtain ⟨cx, fx⟩ := P7.out.byte _ x hx
    have hxl := UInt8.toNat_lt x
    have HX := Lib.hid hx
    clear hx hlenL
    go_upto_region 9 with (first | ((with_reducible refine wl_load (.tmp 15) ?_ ?_ y15 (nextS s t) ?_ N7.out ?_); rfl; rfl; rfl) | ((with_reducible refine wl_load (.tmp 6) ?_ ?_ q1 (nextS s t) ?_ T7.out ?_); rfl; rfl; rfl) | ((with_reducible refine wl_nsame (.tmp 55) (.tmp 56) 27 ?_ ?_ (nextS s t) ?_ ?_ ?_); rfl; rfl; rfl; rfl))
    go_upto_region 10 with fail
    obtain ⟨z, hz, ez⟩ := byte_bump x (y_ % 255) hy0 hy1
    rw [ez]
    obtain ⟨W9, hW9⟩ : ∃ W : World, W = W7.setCell ⟨g0, (a_ % 128).toNat, none⟩ (.int .u8 (z.toNat : Int)) := ⟨_, rfl⟩
    have hb : But g0 W7 W9 := by rw [hW9]; exact ⟨by simp [World.setCell], rfl, rfl, rfl, fun j hj => Below.heap_setCell _ _ _ _ hj⟩
    have hl1 := HL1.out
    have hl2 := LP.out
    have hl3 := LQ.out
    have hl4 := LR.out
    have hl6 := L6.out
    have hln := LN.out
    have B9 := Lib.hid (B7.out.trans (hb.below (by omega)))
    have S9 := Lib.hid (S7.out.but hb (by omega))
    have T9 := Lib.hid (T7.out.but hb (by omega))
    have M9 := Lib.hid (M7.out.but hb (by omega))
    have N9 := Lib.hid (N7.out.but hb (by omega))
    have Q9 := Lib.hid (Q7.out.but hb (by omega))
    have P9 := Lib.hid (show Mem8 W9 g0 0 128 ((spage (nextS s t)).set (a_ % 128).toNat z) by rw [hW9]; exact P7.out.set (a_ % 128).toNat z (by omega))
    have noL : isSup ((spage (nextS s t)).set (a_ % 128).toNat z) = false := isSup_set _ _ _ (by rw [spage_length]; omega) (by rw [(List.getElem?_eq_some_iff.1 HX.out).2]; exact hz)
    have NOL := Lib.hid noL
    rw [← hW9]
    clear hW9 hb noL hz ez cx fx hxl HX e0 hl1 hl2 hl3 hl4 hl6 hln B7 S7 T7 P7 Q7 M7 N7
    generalize hpgL : (spage (nextS s t)).set (a_ % 128).toNat z = pgL at *
    clear hpgL
    obtain ⟨e0, _⟩ := M9.out.gets 0 _ rfl
    obtain ⟨e1, _⟩ := M9.out.gets 1 _ rfl
    go_wp2_with fail
    refine (pick_v _ _ 128 c0 128 c1 (pgL) (spage s) _ P9.out.reads Q9.out.reads (by simp only [maxLen]; omega) hc0 (by simp only [maxLen]; omega) hc1).mono ?_
    rintro e X ⟨rfl, hbx⟩
    rw [pS_own1 HG1.out HK.out NOL.out]
    clear e0 e1
    have N_ := N9.out.keep hbx
    have hyx : y15 < X.heap.size := N_.at_.lt
    go_wp2_with (refine wl_store (.tmp 15) (.tmp 82) rfl (by rfl) y15 (nextS s t) (s) rfl rfl N_ ?_)
    intro W10 hbu hmu
    have hl1 := HL1.out
    have hl2 := LP.out
    have hl3 := LQ.out
    have hl4 := LR.out
    have hl6 := L6.out
    have B10 := Lib.hid ((B9.out.trans (hbx.mono B9.out.size)).trans (hbu.below (by omega)))
    have S10 := Lib.hid ((S9.out.keep hbx).but hbu (by omega))
    have T10 := Lib.hid ((T9.out.keep hbx).but hbu (by omega))
    have P10 := Lib.hid ((P9.out.keep hbx).but hbu (by omega))
    have Q10 := Lib.hid ((Q9.out.keep hbx).but hbu (by omega))
    have M10 := Lib.hid ((M9.out.keep hbx).but hbu (by omega))
    have N10 := Lib.hid hmu
    clear hbu hmu hbx hyx N_ hl1 hl2 hl3 hl4 hl6 X B9 S9 T9 P9 Q9 M9 N9
    obtain ⟨e0, _⟩ := M10.out.gets 1 _ rfl
    have hlenE := Q10.out.len
    obtain ⟨x, hx⟩ : ∃ x, (spage s)[(o_ % 128).toNat]? = some x := ⟨_, List.getElem?_eq_getElem (by rw [spage_length]; omega)⟩
    obtain ⟨cx, fx⟩ := Q10.out.byte _ x hx
    have hxl := UInt8.toNat_lt x
    have HX := Lib.hid hx
    clear hx hlenE
    go_upto_region 13 with (first | ((with_reducible refine wl_load (.tmp 15) ?_ ?_ y15 (s) ?_ N10.out ?_); rfl; rfl; rfl) | ((with_reducible refine wl_load (.tmp 5) ?_ ?_ w.heap.size (s) ?_ S10.out ?_); rfl; rfl; rfl) | ((with_reducible refine wl_nsame (.tmp 93) (.tmp 94) 27 ?_ ?_ (s) ?_ ?_ ?_); rfl; rfl; rfl; rfl))
    go_upto_region 14 with fail
    obtain ⟨z, hz, ez⟩ := byte_bump x (y_ % 255) hy0 hy1
    rw [ez]
    obtain ⟨W13, hW13⟩ : ∃ W : World, W = W10.setCell ⟨g1, (o_ % 128).toNat, none⟩ (.int .u8 (z.toNat : Int)) := ⟨_, rfl⟩
    have hb : But g1 W10 W13 := by rw [hW13]; exact ⟨by simp [World.setCell], rfl, rfl, rfl, fun j hj => Below.heap_setCell _ _ _ _ hj⟩
    have hl1 := HL1.out
    have hl2 := LP.out
    have hl3 := LQ.out
    have hl4 := LR.out
    have hl6 := L6.out
    have hln := LN.out
    have B13 := Lib.hid (B10.out.trans (hb.below (by omega)))
    have S13 := Lib.hid (S10.out.but hb (by omega))
    have T13 := Lib.hid (T10.out.but hb (by omega))
    have M13 := Lib.hid (M10.out.but hb (by omega))
    have N13 := Lib.hid (N10.out.but hb (by omega))
    have P13 := Lib.hid (P10.out.but hb (by omega))
    have Q13 := Lib.hid (show Mem8 W13 g1 0 128 ((spage s).set (o_ % 128).toNat z) by rw [hW13]; exact Q10.out.set (o_ % 128).toNat z (by omega))
    have noE : isSup ((spage s).set (o_ % 128).toNat z) = false := isSup_set _ _ _ (by rw [spage_length]; omega) (by rw [(List.getElem?_eq_some_iff.1 HX.out).2]; exact hz)
    have NOE := Lib.hid noE
    rw [← hW13]
    clear hW13 hb noE hz ez cx fx hxl HX e0 hl1 hl2 hl3 hl4 hl6 hln B10 S10 T10 P10 Q10 M10 N10
    generalize hpgE : (spage s).set (o_ % 128).toNat z = pgE at *
    clear hpgE
    obtain ⟨e0, _⟩ := M13.out.gets 0 _ rfl
    obtain ⟨e1, _⟩ := M13.out.gets 1 _ rfl
    go_wp2_with fail
    refine (pick_v _ _ 128 c0 128 c1 (pgL) (pgE) _ P13.out.reads Q13.out.reads (by simp only [maxLen]; omega) hc0 (by simp only [maxLen]; omega) hc1).mono ?_
    rintro e X ⟨rfl, hbx⟩
    rw [pickV_n (.inl NOL.out) (.inl NOE.out)]
    clear e0 e1
    have N_ := N13.out.keep hbx
    have hyx : y15 < X.heap.size := N_.at_.lt
    go_wp2_with (refine wl_store (.tmp 15) (.tmp 115) rfl (by rfl) y15 (s) (noS) rfl rfl N_ ?_)
    intro W14 hbu hmu
    have hl1 := HL1.out
    have hl2 := LP.out
    have hl3 := LQ.out
    have hl4 := LR.out
    have hl6 := L6.out
    have B14 := Lib.hid ((B13.out.trans (hbx.mono B13.out.size)).trans (hbu.below (by omega)))
    have S14 := Lib.hid ((S13.out.keep hbx).but hbu (by omega))
    have T14 := Lib.hid ((T13.out.keep hbx).but hbu (by omega))
    have P14 := Lib.hid ((P13.out.keep hbx).but hbu (by omega))
    have Q14 := Lib.hid ((Q13.out.keep hbx).but hbu (by omega))
    have M14 := Lib.hid ((M13.out.keep hbx).but hbu (by omega))
    have N14 := Lib.hid hmu
    clear hbu hmu hbx hyx N_ hl1 hl2 hl3 hl4 hl6 X B13 S13 T13 P13 Q13 M13 N13
    go_wp2_with (first | ((with_reducible refine wl_load (.tmp 15) ?_ ?_ y15 (noS) ?_ N14.out ?_); rfl; rfl; rfl) | ((with_reducible refine wl_build0 ?_ ?_ ?_); rfl; rfl) | ((with_reducible refine wl_same (.tmp 125) (.tmp 126) 27 ?_ ?_ (noS) ?_ ?_ ?_); rfl; rfl; rfl; rfl))
    refine (awake_any _).mono ?_
    rintro e Wz ⟨rfl, hbz⟩
    have BZ := Lib.hid (B14.out.trans (hbz.mono B14.out.size))
    clear hbz
    go_wp2_with fail
    go_ret
    exact ⟨rfl, BZ.out⟩

theorem lawNext (s t : Sup) (a o y : UInt8) (w : World) : Calls Try.prog 6 #[sval s, sval t, .int .u8 (a.toNat : Int), .int .u8 (o.toNat : Int), .int .u8 (y.toNat : Int)] w fun e w' => e = .returned (.bool true) ∧ Below w.heap.size w w' := by
  have h1 := UInt8.toNat_lt a
  have h2 := UInt8.toNat_lt o
  have h3 := UInt8.toNat_lt y
  by_cases hg : rightS s = true ∧ rightS (nextS s t) = true
  · exact next_good s t _ _ _ w hg.1 hg.2 (by omega) (by omega) (by omega) (by omega) (by omega) (by omega)
  · exact next_bad s t _ _ _ w hg

end Go.Proofs.Ytfnoeligaapnbaa
