/-
  Two supers, one generation behind the other, as pages in their slots: catchmentlaw06.whole.
-/
import Derived.Test.YtfnoeligaapnbaaSuX
namespace Go.Proofs.Ytfnoeligaapnbaa
open Go.RowKit Go.Shelf
set_option linter.unusedVariables false
set_option linter.unusedSimpArgs false
attribute [local go_sem ↓] Go.wp_at_zero Go.wp_at_succ

/-- The second super, one generation behind the first. -/
def nextS (s t : Sup) : Sup := { t with gen := s.gen + 1 }
theorem scells_next (s t : Sup) : (scells t).set 0 (.int .u64 ((s.gen + 1).toNat : Int)) = scells (nextS s t) := rfl
theorem gen_wrap (s : Sup) : IntKind.u64.wrap ((s.gen.toNat : Int) + 1) = ((s.gen + 1).toNat : Int) := by
  have h := UInt64.toNat_add s.gen 1
  rw [IntKind.wrap_u64', h]
  simp
theorem next_par (s : Sup) : (s.gen + 1).toNat % 2 = 1 - s.gen.toNat % 2 := by
  have h := UInt64.toNat_add s.gen 1
  have h2 : (1 : UInt64).toNat = 1 := rfl
  rw [h, h2]
  omega
theorem next_gen (s t : Sup) (h : rightS (nextS s t) = true) : s.gen.toNat < (nextS s t).gen.toNat := by
  have h1 := right_gen h
  have h := UInt64.toNat_add s.gen 1
  have h2 : (1 : UInt64).toNat = 1 := rfl
  have h3 : (nextS s t).gen = s.gen + 1 := rfl
  have h4 := UInt64.toNat_lt s.gen
  rw [h3] at h1 ⊢
  rw [h, h2] at h1 ⊢
  omega

/-- The pages of the slots 0 and 1. -/
def slot0 (s t : Sup) : List UInt8 := if s.gen.toNat % 2 = 0 then spage s else spage (nextS s t)
def slot1 (s t : Sup) : List UInt8 := if s.gen.toNat % 2 = 0 then spage (nextS s t) else spage s

/-- What 'whole' tells. -/
def wholeP (s t : Sup) (w : World) (e : Ending) (w' : World) : Prop :=
  if rightS s = true ∧ rightS (nextS s t) = true then
    ∃ g0 c0 g1 c1, e = .returned (.tuple #[.agg #[.slice (some ⟨g0, 0, none⟩) 128 c0, .slice (some ⟨g1, 0, none⟩) 128 c1], .bool true]) ∧ w.heap.size ≤ g0 ∧ w.heap.size ≤ g1 ∧ g0 ≠ g1 ∧ 128 ≤ c0 ∧ 128 ≤ c1 ∧ Mem8 w' g0 0 128 (slot0 s t) ∧ Mem8 w' g1 0 128 (slot1 s t) ∧ Below w.heap.size w w'
  else e = .returned (.tuple #[.agg #[.slice none 0 0, .slice none 0 0], .bool false]) ∧ Below w.heap.size w w'
theorem load_pair {w : World} {B : Nat} {x y : Value} (h : MemC w B 0 [x, y]) : (loadVar 46 ⟨B, 0, none⟩).run Try.prog w = .ok (.agg #[x, y]) w :=
  run_loadVar_mid w B 0 46 [x, y] _ (fun j v hv => by rw [Nat.zero_add]; exact (h.gets j v hv).1) Try.underlying46 rfl (by kernel_rfl)

set_option maxHeartbeats 8000000 in
set_option maxRecDepth 100000 in
theorem whole_any (s t : Sup) (w : World) : Calls Try.prog 23 #[sval s, sval t] w (wholeP s t w) := by
  go_enter Try.func23, Try.ntmps23
  go_upto_region 0 with fail
  refine wp_region_lit ?_
  refine wl_box (.tmp 0) rfl (by rfl) s rfl fun W1 hb1 hm1 hs1 => ?_
  refine wl_box (.tmp 1) rfl (by rfl) t rfl fun W2 hb2 hm2 hs2 => ?_
  have B2 := Lib.hid (hb1.trans (hb2.mono hb1.size))
  have S2 := Lib.hid (hm1.keep hb2)
  have T2 := Lib.hid hm2
  have HL1 : Hid (w.heap.size < W1.heap.size) := Lib.hid hm1.at_.lt
  have HL2 : Hid (W1.heap.size < W2.heap.size) := Lib.hid hm2.at_.lt
  clear hb1 hm1 hs1 hb2 hm2 hs2
  generalize W1.heap.size = q1 at *
  clear W1
  go_upto_region 2 with fail
  obtain ⟨W5, hW5⟩ : ∃ W : World, W = (W2.alloc (.cells #[.slice none 0 0, .slice none 0 0] 46)).alloc (.cells #[.slice none 0 0, .slice none 0 0] 46) := ⟨_, rfl⟩
  have b1 := (Below.refl W2.heap.size W2).alloc (Nat.le_refl _) (.cells #[.slice none 0 0, .slice none 0 0] 46)
  have b2 := (Below.refl (W2.alloc (.cells #[.slice none 0 0, .slice none 0 0] 46)).heap.size (W2.alloc (.cells #[.slice none 0 0, .slice none 0 0] 46))).alloc (Nat.le_refl _) (.cells #[.slice none 0 0, .slice none 0 0] 46)
  have m4 := (MemC.new W2 [.slice none 0 0, .slice none 0 0] 46).keep b2
  have m6 := MemC.new (W2.alloc (.cells #[.slice none 0 0, .slice none 0 0] 46)) [.slice none 0 0, .slice none 0 0] 46
  have hz : (W2.alloc (.cells #[.slice none 0 0, .slice none 0 0] 46)).heap.size = W2.heap.size + 1 := by simp
  rw [hz] at m6
  have hb : Below W2.heap.size W2 W5 := by rw [hW5]; exact b1.trans (b2.mono (by rw [hz]; omega))
  replace m4 : MemC W5 W2.heap.size 0 [.slice none 0 0, .slice none 0 0] := by rw [hW5]; exact m4
  replace m6 : MemC W5 (W2.heap.size + 1) 0 [.slice none 0 0, .slice none 0 0] := by rw [hW5]; exact m6
  rw [← hW5]
  have B5 := Lib.hid (B2.out.trans (hb.mono B2.out.size))
  have S5 := Lib.hid (S2.out.keep hb)
  have T5 := Lib.hid (T2.out.keep hb)
  have M45 := Lib.hid m4
  have M65 := Lib.hid m6
  clear hW5 b1 b2 m4 m6 hz hb B2 S2 T2
  generalize W2.heap.size = q4 at *
  clear W2
  obtain ⟨g0, gf0⟩ := S5.out.gets 0 _ (scells_gen s)
  obtain ⟨t0, tf0⟩ := T5.out.gets 0 _ (scells_gen t)
  go_upto_region 3 with fail
  rw [gen_wrap]
  obtain ⟨W6, hW6⟩ : ∃ W : World, W = W5.setCell ⟨q1, 0, none⟩ (.int .u64 ((s.gen + 1).toNat : Int)) := ⟨_, rfl⟩
  have hT : MemC W6 q1 0 (scells (nextS s t)) := by rw [hW6, ← scells_next]; exact T5.out.setAt 0 (by rw [scells_length]; decide) _
  have T6 := Lib.hid hT
  have S6 := Lib.hid (show MemC W6 w.heap.size 0 (scells s) by rw [hW6]; exact S5.out.setOther (by have := HL1.out; omega) _)
  have M46 := Lib.hid (show MemC W6 q4 0 _ by rw [hW6]; exact M45.out.setOther (by have := HL2.out; omega) _)
  have M66 := Lib.hid (show MemC W6 (q4 + 1) 0 _ by rw [hW6]; exact M65.out.setOther (by have := HL2.out; omega) _)
  have B6 := Lib.hid (show Below w.heap.size w W6 by rw [hW6]; exact B5.out.setCell (p := ⟨q1, 0, none⟩) (Nat.le_of_lt HL1.out) _)
  rw [← hW6]
  clear hW6 hT g0 gf0 t0 tf0 B5 S5 T5 M45 M65 W5
  by_cases hg : rightS s = true ∧ rightS (nextS s t) = true
  · obtain ⟨hg1, hg2⟩ := hg
    have HG1 := Lib.hid hg1
    have HG2 := Lib.hid hg2
    clear hg1 hg2
    go_wp2_with (refine wl_load (.tmp 2) rfl (by rfl) w.heap.size s rfl S6.out ?_)
    refine (encode_good s _ HG1.out).mono ?_
    rintro e W7 ⟨v, rfl, hF⟩
    obtain ⟨ga, ca, rfl, hga, hca, hcma, hMa, hb⟩ := hF.open_ (spage_length s)
    have B7 := Lib.hid (B6.out.trans (hb.mono B6.out.size))
    have S7 := Lib.hid (S6.out.keep hb)
    have T7 := Lib.hid (T6.out.keep hb)
    have M47 := Lib.hid (M46.out.keep hb)
    have M67 := Lib.hid (M66.out.keep hb)
    have P7 := Lib.hid hMa
    have LA := Lib.hid (Nat.lt_of_lt_of_le M66.out.at_.lt hga)
    have LW := Lib.hid (Nat.le_trans B6.out.size hga)
    clear hb hF hMa hga B6 S6 T6 M46 M66
    go_wp2_with (refine wl_load (.tmp 3) rfl (by rfl) q1 (nextS s t) rfl T7.out ?_)
    refine (encode_good (nextS s t) _ HG2.out).mono ?_
    rintro e W8 ⟨v, rfl, hF⟩
    obtain ⟨gb, cb, rfl, hgb, hcb, hcmb, hMb, hb⟩ := hF.open_ (spage_length (nextS s t))
    have B8 := Lib.hid (B7.out.trans (hb.mono B7.out.size))
    have S8 := Lib.hid (S7.out.keep hb)
    have T8 := Lib.hid (T7.out.keep hb)
    have M48 := Lib.hid (M47.out.keep hb)
    have M68 := Lib.hid (M67.out.keep hb)
    have P8 := Lib.hid (P7.out.keep hb)
    have Q8 := Lib.hid hMb
    have LB := Lib.hid (Nat.lt_of_lt_of_le P7.out.lt hgb)
    clear hb hF hMb hgb B7 S7 T7 M47 M67 P7
    go_upto_region 7 with fail
    have hS : W8.drew.cell? ⟨w.heap.size, 0, none⟩ = some (.int .u64 (s.gen.toNat : Int)) := (S8.out.gets 0 _ (scells_gen s)).1
    have hT : W8.drew.cell? ⟨q1, 0, none⟩ = some (.int .u64 ((s.gen + 1).toNat : Int)) := (T8.out.gets 0 _ (scells_gen (nextS s t))).1
    have d0 : W8.drew.cell? ⟨q4 + 1, 0, none⟩ = some (.slice none 0 0) := (M68.out.gets 0 _ rfl).1
    have d1 : W8.drew.cell? ⟨q4 + 1, 1, none⟩ = some (.slice none 0 0) := (M68.out.gets 1 _ rfl).1
    have f0 : W8.drew.frozen? ⟨q4 + 1, 0, none⟩ = false := (M68.out.gets 0 _ rfl).2
    have f1 : W8.drew.frozen? ⟨q4 + 1, 1, none⟩ = false := (M68.out.gets 1 _ rfl).2
    have M6d := Lib.hid M68.out.drew
    have M4d := Lib.hid M48.out.drew
    have P8d := Lib.hid P8.out.drew
    have Q8d := Lib.hid Q8.out.drew
    have B8d := Lib.hid B8.out.drew
    obtain ⟨W9, hW9⟩ : ∃ W : World, W = W8.drew := ⟨_, rfl⟩
    rw [← hW9] at hS hT d0 d1 f0 f1 M6d M4d P8d Q8d B8d
    have HS : Hid (∀ i v, (W9.setCell ⟨q4 + 1, i, none⟩ v).cell? ⟨w.heap.size, 0, none⟩ = some (.int .u64 (s.gen.toNat : Int)) ∧ (W9.setCell ⟨q4 + 1, i, none⟩ v).cell? ⟨q1, 0, none⟩ = some (.int .u64 ((s.gen + 1).toNat : Int))) := Lib.hid fun i v =>
      ⟨(World.cell?_of_block (a := ⟨w.heap.size, 0, none⟩) (Below.heap_setCell _ _ _ _ (by have := HL1.out; have := HL2.out; show w.heap.size ≠ q4 + 1; omega))).trans hS, (World.cell?_of_block (a := ⟨q1, 0, none⟩) (Below.heap_setCell _ _ _ _ (by have := HL1.out; have := HL2.out; show q1 ≠ q4 + 1; omega))).trans hT⟩
    have HS2 : Hid (∀ i v i' v', ((W9.setCell ⟨q4 + 1, i, none⟩ v).setCell ⟨q4 + 1, i', none⟩ v').cell? ⟨w.heap.size, 0, none⟩ = some (.int .u64 (s.gen.toNat : Int)) ∧ ((W9.setCell ⟨q4 + 1, i, none⟩ v).setCell ⟨q4 + 1, i', none⟩ v').cell? ⟨q1, 0, none⟩ = some (.int .u64 ((s.gen + 1).toNat : Int))) := Lib.hid fun i v i' v' =>
      ⟨(World.cell?_of_block (a := ⟨w.heap.size, 0, none⟩) (Below.heap_setCell _ _ _ _ (by have := HL1.out; have := HL2.out; show w.heap.size ≠ q4 + 1; omega))).trans (HS.out i v).1, (World.cell?_of_block (a := ⟨q1, 0, none⟩) (Below.heap_setCell _ _ _ _ (by have := HL1.out; have := HL2.out; show q1 ≠ q4 + 1; omega))).trans (HS.out i v).2⟩
    have HNA : Hid (ga ≠ q4 + 1) := Lib.hid (by have := LA.out; omega)
    have HNB : Hid (gb ≠ q4 + 1) := Lib.hid (by have := LA.out; have := LB.out; omega)
    have HNA4 : Hid (ga ≠ q4) := Lib.hid (by have := LA.out; omega)
    have HNB4 : Hid (gb ≠ q4) := Lib.hid (by have := LA.out; have := LB.out; omega)
    have HQ4 : Hid (w.heap.size ≤ q4) := Lib.hid (by have := HL1.out; have := HL2.out; omega)
    have HQ : Hid (w.heap.size ≤ q4 + 1) := Lib.hid (by have := HL1.out; have := HL2.out; omega)
    have hnp := next_par s
    have hpar : s.gen.toNat % 2 = 0 ∨ s.gen.toNat % 2 = 1 := by omega
    rcases hpar with hk | hk
    · have es : slotS s.gen.toNat = 0 := hk
      have en : slotS (s.gen + 1).toNat = 1 := by unfold slotS; omega
      have HK := Lib.hid hk
      clear hk hnp
      refine wp_region_held_drew (S := fun w' => w'.cell? ⟨w.heap.size, 0, none⟩ = some (.int .u64 (s.gen.toNat : Int)) ∧ w'.cell? ⟨q1, 0, none⟩ = some (.int .u64 ((s.gen + 1).toNat : Int))) (by kernel_rfl) (by rw [← hW9]; exact ⟨hS, hT⟩) (fun hHeld => ?_)
      rw [← hW9] at hHeld ⊢
      clear hW9
      refine wpAnyH_take (i := 0) (v := .pointer (some ⟨w.heap.size, 0, none⟩)) rfl (by kernel_rfl) (by kernel_rfl) (by kernel_rfl) (fun _ _ _ h => h) (Or.inl ⟨by kernel_rfl, fun w _ => by go_simp⟩) hHeld ?_
      try simp only [Act.put, List.getElem_toArray, List.getElem_cons_succ, List.getElem_cons_zero, List.setIfInBounds_toArray, List.set_cons_zero, List.set_cons_succ]
      refine wpAnyH_take (i := 1) (v := .int .u64 (s.gen.toNat : Int)) rfl (by kernel_rfl) (by kernel_rfl) (by kernel_rfl) (fun _ _ _ h => h) (Or.inl ⟨by kernel_rfl, fun w h => by have hc := h.1; go_simp⟩) hHeld ?_
      try simp only [Act.put, List.getElem_toArray, List.getElem_cons_succ, List.getElem_cons_zero, List.setIfInBounds_toArray, List.set_cons_zero, List.set_cons_succ]
      refine wpAnyH_take (i := 3) (v := .pointer (some ⟨q1, 0, none⟩)) rfl (by kernel_rfl) (by kernel_rfl) (by kernel_rfl) (fun _ _ _ h => h) (Or.inl ⟨by kernel_rfl, fun w _ => by go_simp⟩) hHeld ?_
      try simp only [Act.put, List.getElem_toArray, List.getElem_cons_succ, List.getElem_cons_zero, List.setIfInBounds_toArray, List.set_cons_zero, List.set_cons_succ]
      refine wpAnyH_take (i := 4) (v := .int .u64 ((s.gen + 1).toNat : Int)) rfl (by kernel_rfl) (by kernel_rfl) (by kernel_rfl) (fun _ _ _ h => h) (Or.inl ⟨by kernel_rfl, fun w h => by have hc := h.2; go_simp⟩) hHeld ?_
      try simp only [Act.put, List.getElem_toArray, List.getElem_cons_succ, List.getElem_cons_zero, List.setIfInBounds_toArray, List.set_cons_zero, List.set_cons_succ]
      refine wpAnyH_take (i := 6) (v := .slice (some ⟨ga, 0, none⟩) 128 ca) rfl (by kernel_rfl) (by kernel_rfl) (by kernel_rfl) (fun _ _ _ h => h) (Or.inl ⟨by kernel_rfl, fun w _ => by go_simp⟩) hHeld ?_
      try simp only [Act.put, List.getElem_toArray, List.getElem_cons_succ, List.getElem_cons_zero, List.setIfInBounds_toArray, List.set_cons_zero, List.set_cons_succ]
      refine wpAnyH_take (i := 7) (v := .slice (some ⟨gb, 0, none⟩) 128 cb) rfl (by kernel_rfl) (by kernel_rfl) (by kernel_rfl) (fun _ _ _ h => h) (Or.inl ⟨by kernel_rfl, fun w _ => by go_simp⟩) hHeld ?_
      try simp only [Act.put, List.getElem_toArray, List.getElem_cons_succ, List.getElem_cons_zero, List.setIfInBounds_toArray, List.set_cons_zero, List.set_cons_succ]
      refine wpAnyH_ready (rs := [2]) (by kernel_rfl) (by simp) ?_
      refine AllReadyH.cons rfl (fun K hK => ?_) AllReadyH.nil
      go_simp
      go_at_call 21
      refine (slot_any s.gen _).mono ?_
      rintro e w' ⟨rfl, rfl⟩
      rw [es]
      refine hK.out _ _ hHeld (fun hHeld => ?_)
      try simp only [Act.put, List.getElem_toArray, List.getElem_cons_succ, List.getElem_cons_zero, List.setIfInBounds_toArray, List.set_cons_zero, List.set_cons_succ]
      refine wpAnyH_take (i := 8) (v := .pointer (some ⟨q4 + 1, 0, none⟩)) rfl (by kernel_rfl) (by kernel_rfl) (by kernel_rfl) (fun _ _ _ h => h) (Or.inl ⟨by kernel_rfl, fun w _ => by go_simp⟩) hHeld ?_
      try simp only [Act.put, List.getElem_toArray, List.getElem_cons_succ, List.getElem_cons_zero, List.setIfInBounds_toArray, List.set_cons_zero, List.set_cons_succ]
      refine wpAnyH_ready (rs := [5]) (by kernel_rfl) (by simp) ?_
      refine AllReadyH.cons rfl (fun K hK => ?_) AllReadyH.nil
      go_simp
      go_at_call 21
      refine (slot_any (s.gen + 1) _).mono ?_
      rintro e w' ⟨rfl, rfl⟩
      rw [en]
      refine hK.out _ _ hHeld (fun hHeld => ?_)
      try simp only [Act.put, List.getElem_toArray, List.getElem_cons_succ, List.getElem_cons_zero, List.setIfInBounds_toArray, List.set_cons_zero, List.set_cons_succ]
      have d1' : (W9.setCell ⟨q4 + 1, 0, none⟩ (.slice (some ⟨ga, 0, none⟩) 128 ca)).cell? ⟨q4 + 1, 1, none⟩ = some (.slice none 0 0) := ((M6d.out.setAt 0 (by simp) (.slice (some ⟨ga, 0, none⟩) 128 ca)).gets 1 _ rfl).1
      have f1' : (W9.setCell ⟨q4 + 1, 0, none⟩ (.slice (some ⟨ga, 0, none⟩) 128 ca)).frozen? ⟨q4 + 1, 1, none⟩ = false := ((M6d.out.setAt 0 (by simp) (.slice (some ⟨ga, 0, none⟩) 128 ca)).gets 1 _ rfl).2
      refine wpAnyH_ready (rs := [9]) (by kernel_rfl) (by simp) ?_
      refine AllReadyH.cons rfl (fun K hK => ?_) AllReadyH.nil
      go_simp
      refine hK.out _ _ (HS.out _ _) (fun hHeld => ?_)
      try simp only [Act.put, List.getElem_toArray, List.getElem_cons_succ, List.getElem_cons_zero, List.setIfInBounds_toArray, List.set_cons_zero, List.set_cons_succ]
      refine wpAnyH_take (i := 10) (v := .pointer (some ⟨q4 + 1, 1, none⟩)) rfl (by kernel_rfl) (by kernel_rfl) (by kernel_rfl) (fun _ _ _ h => h) (Or.inl ⟨by kernel_rfl, fun w _ => by go_simp⟩) hHeld ?_
      try simp only [Act.put, List.getElem_toArray, List.getElem_cons_succ, List.getElem_cons_zero, List.setIfInBounds_toArray, List.set_cons_zero, List.set_cons_succ]
      refine wpAnyH_ready (rs := [11]) (by kernel_rfl) (by simp) ?_
      refine AllReadyH.cons rfl (fun K hK => ?_) AllReadyH.nil
      go_simp
      refine hK.out _ _ (HS2.out _ _ _ _) (fun hHeld => ?_)
      try simp only [Act.put, List.getElem_toArray, List.getElem_cons_succ, List.getElem_cons_zero, List.setIfInBounds_toArray, List.set_cons_zero, List.set_cons_succ]
      refine wpAnyH_done (by kernel_rfl) ?_ _
      obtain ⟨WX, hWX⟩ : ∃ W : World, W = (W9.setCell ⟨q4 + 1, 0, none⟩ (.slice (some ⟨ga, 0, none⟩) 128 ca)).setCell ⟨q4 + 1, 1, none⟩ (.slice (some ⟨gb, 0, none⟩) 128 cb) := ⟨_, rfl⟩
      have m6 : MemC WX (q4 + 1) 0 [.slice (some ⟨ga, 0, none⟩) 128 ca, .slice (some ⟨gb, 0, none⟩) 128 cb] := by rw [hWX]; exact (M6d.out.setAt 0 (by simp) (.slice (some ⟨ga, 0, none⟩) 128 ca)).setAt 1 (by simp) (.slice (some ⟨gb, 0, none⟩) 128 cb)
      have m4 : MemC WX q4 0 [.slice none 0 0, .slice none 0 0] := by rw [hWX]; exact (M4d.out.setOther (by omega) _).setOther (by omega) _
      have PX := Lib.hid (show Mem8 WX ga 0 128 (spage s) by rw [hWX]; exact (Wrote.set _ _ _ _).far ((Wrote.set _ _ _ _).far P8d.out (.inl HNA.out)) (.inl HNA.out))
      have QX := Lib.hid (show Mem8 WX gb 0 128 (spage (nextS s t)) by rw [hWX]; exact (Wrote.set _ _ _ _).far ((Wrote.set _ _ _ _).far Q8d.out (.inl HNB.out)) (.inl HNB.out))
      have BX := Lib.hid (show Below w.heap.size w WX by rw [hWX]; exact (B8d.out.setCell (p := ⟨q4 + 1, 0, none⟩) HQ.out _).setCell (p := ⟨q4 + 1, 1, none⟩) HQ.out _)
      rw [← hWX]
      clear hWX d0 d1 f0 f1 d1' f1' hS hT hHeld
      obtain ⟨a0, b0⟩ := m6.gets 0 _ rfl
      obtain ⟨a1, b1⟩ := m6.gets 1 _ rfl
      obtain ⟨c0, e0⟩ := m4.gets 0 _ rfl
      obtain ⟨c1, e1⟩ := m4.gets 1 _ rfl
      clear b0 b1
      have M4 := Lib.hid m4
      clear m4 m6
      have HM := Lib.hid ((M4.out.setAt 0 (by simp) (.slice (some ⟨ga, 0, none⟩) 128 ca)).setAt 1 (by simp) (.slice (some ⟨gb, 0, none⟩) 128 cb))
      have HB := Lib.hid ((BX.out.setCell (p := ⟨q4, 0, none⟩) HQ4.out (.slice (some ⟨ga, 0, none⟩) 128 ca)).setCell (p := ⟨q4, 1, none⟩) HQ4.out (.slice (some ⟨gb, 0, none⟩) 128 cb))
      have PZ := Lib.hid (show Mem8 ((WX.setCell ⟨q4, 0, none⟩ (.slice (some ⟨ga, 0, none⟩) 128 ca)).setCell ⟨q4, 1, none⟩ (.slice (some ⟨gb, 0, none⟩) 128 cb)) ga 0 128 (spage s) from (Wrote.set _ _ _ _).far ((Wrote.set _ _ _ _).far PX.out (.inl HNA4.out)) (.inl HNA4.out))
      have QZ := Lib.hid (show Mem8 ((WX.setCell ⟨q4, 0, none⟩ (.slice (some ⟨ga, 0, none⟩) 128 ca)).setCell ⟨q4, 1, none⟩ (.slice (some ⟨gb, 0, none⟩) 128 cb)) gb 0 128 (spage (nextS s t)) from (Wrote.set _ _ _ _).far ((Wrote.set _ _ _ _).far QX.out (.inl HNB4.out)) (.inl HNB4.out))
      clear M4 BX PX QX
      go_wp2_with fail
      refine bodyPost_ret (v := .tuple #[.agg #[.slice (some ⟨ga, 0, none⟩) 128 ca, .slice (some ⟨gb, 0, none⟩) 128 cb], .bool true]) (by simp [results, Try.results23, Sem.run_bind, Sem.run_pure, asAddr, load_pair HM.out]) rfl ?_
      unfold wholeP slot0 slot1
      rw [if_pos ⟨HG1.out, HG2.out⟩]
      have h2 := HK.out
      refine ⟨_, _, _, _, rfl, LW.out, Nat.le_of_lt (Nat.lt_of_le_of_lt LW.out LB.out), Nat.ne_of_lt LB.out, hca, hcb, ?_, ?_, HB.out⟩
      · rw [if_pos h2]; exact PZ.out
      · rw [if_pos h2]; exact QZ.out
    · have es : slotS s.gen.toNat = 1 := hk
      have en : slotS (s.gen + 1).toNat = 0 := by unfold slotS; omega
      have HK := Lib.hid hk
      clear hk hnp
      refine wp_region_held_drew (S := fun w' => w'.cell? ⟨w.heap.size, 0, none⟩ = some (.int .u64 (s.gen.toNat : Int)) ∧ w'.cell? ⟨q1, 0, none⟩ = some (.int .u64 ((s.gen + 1).toNat : Int))) (by kernel_rfl) (by rw [← hW9]; exact ⟨hS, hT⟩) (fun hHeld => ?_)
      rw [← hW9] at hHeld ⊢
      clear hW9
      refine wpAnyH_take (i := 0) (v := .pointer (some ⟨w.heap.size, 0, none⟩)) rfl (by kernel_rfl) (by kernel_rfl) (by kernel_rfl) (fun _ _ _ h => h) (Or.inl ⟨by kernel_rfl, fun w _ => by go_simp⟩) hHeld ?_
      try simp only [Act.put, List.getElem_toArray, List.getElem_cons_succ, List.getElem_cons_zero, List.setIfInBounds_toArray, List.set_cons_zero, List.set_cons_succ]
      refine wpAnyH_take (i := 1) (v := .int .u64 (s.gen.toNat : Int)) rfl (by kernel_rfl) (by kernel_rfl) (by kernel_rfl) (fun _ _ _ h => h) (Or.inl ⟨by kernel_rfl, fun w h => by have hc := h.1; go_simp⟩) hHeld ?_
      try simp only [Act.put, List.getElem_toArray, List.getElem_cons_succ, List.getElem_cons_zero, List.setIfInBounds_toArray, List.set_cons_zero, List.set_cons_succ]
      refine wpAnyH_take (i := 3) (v := .pointer (some ⟨q1, 0, none⟩)) rfl (by kernel_rfl) (by kernel_rfl) (by kernel_rfl) (fun _ _ _ h => h) (Or.inl ⟨by kernel_rfl, fun w _ => by go_simp⟩) hHeld ?_
      try simp only [Act.put, List.getElem_toArray, List.getElem_cons_succ, List.getElem_cons_zero, List.setIfInBounds_toArray, List.set_cons_zero, List.set_cons_succ]
      refine wpAnyH_take (i := 4) (v := .int .u64 ((s.gen + 1).toNat : Int)) rfl (by kernel_rfl) (by kernel_rfl) (by kernel_rfl) (fun _ _ _ h => h) (Or.inl ⟨by kernel_rfl, fun w h => by have hc := h.2; go_simp⟩) hHeld ?_
      try simp only [Act.put, List.getElem_toArray, List.getElem_cons_succ, List.getElem_cons_zero, List.setIfInBounds_toArray, List.set_cons_zero, List.set_cons_succ]
      refine wpAnyH_take (i := 6) (v := .slice (some ⟨ga, 0, none⟩) 128 ca) rfl (by kernel_rfl) (by kernel_rfl) (by kernel_rfl) (fun _ _ _ h => h) (Or.inl ⟨by kernel_rfl, fun w _ => by go_simp⟩) hHeld ?_
      try simp only [Act.put, List.getElem_toArray, List.getElem_cons_succ, List.getElem_cons_zero, List.setIfInBounds_toArray, List.set_cons_zero, List.set_cons_succ]
      refine wpAnyH_take (i := 7) (v := .slice (some ⟨gb, 0, none⟩) 128 cb) rfl (by kernel_rfl) (by kernel_rfl) (by kernel_rfl) (fun _ _ _ h => h) (Or.inl ⟨by kernel_rfl, fun w _ => by go_simp⟩) hHeld ?_
      try simp only [Act.put, List.getElem_toArray, List.getElem_cons_succ, List.getElem_cons_zero, List.setIfInBounds_toArray, List.set_cons_zero, List.set_cons_succ]
      refine wpAnyH_ready (rs := [2]) (by kernel_rfl) (by simp) ?_
      refine AllReadyH.cons rfl (fun K hK => ?_) AllReadyH.nil
      go_simp
      go_at_call 21
      refine (slot_any s.gen _).mono ?_
      rintro e w' ⟨rfl, rfl⟩
      rw [es]
      refine hK.out _ _ hHeld (fun hHeld => ?_)
      try simp only [Act.put, List.getElem_toArray, List.getElem_cons_succ, List.getElem_cons_zero, List.setIfInBounds_toArray, List.set_cons_zero, List.set_cons_succ]
      refine wpAnyH_take (i := 8) (v := .pointer (some ⟨q4 + 1, 1, none⟩)) rfl (by kernel_rfl) (by kernel_rfl) (by kernel_rfl) (fun _ _ _ h => h) (Or.inl ⟨by kernel_rfl, fun w _ => by go_simp⟩) hHeld ?_
      try simp only [Act.put, List.getElem_toArray, List.getElem_cons_succ, List.getElem_cons_zero, List.setIfInBounds_toArray, List.set_cons_zero, List.set_cons_succ]
      refine wpAnyH_ready (rs := [5]) (by kernel_rfl) (by simp) ?_
      refine AllReadyH.cons rfl (fun K hK => ?_) AllReadyH.nil
      go_simp
      go_at_call 21
      refine (slot_any (s.gen + 1) _).mono ?_
      rintro e w' ⟨rfl, rfl⟩
      rw [en]
      refine hK.out _ _ hHeld (fun hHeld => ?_)
      try simp only [Act.put, List.getElem_toArray, List.getElem_cons_succ, List.getElem_cons_zero, List.setIfInBounds_toArray, List.set_cons_zero, List.set_cons_succ]
      have d0' : (W9.setCell ⟨q4 + 1, 1, none⟩ (.slice (some ⟨ga, 0, none⟩) 128 ca)).cell? ⟨q4 + 1, 0, none⟩ = some (.slice none 0 0) := ((M6d.out.setAt 1 (by simp) (.slice (some ⟨ga, 0, none⟩) 128 ca)).gets 0 _ rfl).1
      have f0' : (W9.setCell ⟨q4 + 1, 1, none⟩ (.slice (some ⟨ga, 0, none⟩) 128 ca)).frozen? ⟨q4 + 1, 0, none⟩ = false := ((M6d.out.setAt 1 (by simp) (.slice (some ⟨ga, 0, none⟩) 128 ca)).gets 0 _ rfl).2
      refine wpAnyH_ready (rs := [9]) (by kernel_rfl) (by simp) ?_
      refine AllReadyH.cons rfl (fun K hK => ?_) AllReadyH.nil
      go_simp
      refine hK.out _ _ (HS.out _ _) (fun hHeld => ?_)
      try simp only [Act.put, List.getElem_toArray, List.getElem_cons_succ, List.getElem_cons_zero, List.setIfInBounds_toArray, List.set_cons_zero, List.set_cons_succ]
      refine wpAnyH_take (i := 10) (v := .pointer (some ⟨q4 + 1, 0, none⟩)) rfl (by kernel_rfl) (by kernel_rfl) (by kernel_rfl) (fun _ _ _ h => h) (Or.inl ⟨by kernel_rfl, fun w _ => by go_simp⟩) hHeld ?_
      try simp only [Act.put, List.getElem_toArray, List.getElem_cons_succ, List.getElem_cons_zero, List.setIfInBounds_toArray, List.set_cons_zero, List.set_cons_succ]
      refine wpAnyH_ready (rs := [11]) (by kernel_rfl) (by simp) ?_
      refine AllReadyH.cons rfl (fun K hK => ?_) AllReadyH.nil
      go_simp
      refine hK.out _ _ (HS2.out _ _ _ _) (fun hHeld => ?_)
      try simp only [Act.put, List.getElem_toArray, List.getElem_cons_succ, List.getElem_cons_zero, List.setIfInBounds_toArray, List.set_cons_zero, List.set_cons_succ]
      refine wpAnyH_done (by kernel_rfl) ?_ _
      obtain ⟨WX, hWX⟩ : ∃ W : World, W = (W9.setCell ⟨q4 + 1, 1, none⟩ (.slice (some ⟨ga, 0, none⟩) 128 ca)).setCell ⟨q4 + 1, 0, none⟩ (.slice (some ⟨gb, 0, none⟩) 128 cb) := ⟨_, rfl⟩
      have m6 : MemC WX (q4 + 1) 0 [.slice (some ⟨gb, 0, none⟩) 128 cb, .slice (some ⟨ga, 0, none⟩) 128 ca] := by rw [hWX]; exact (M6d.out.setAt 1 (by simp) (.slice (some ⟨ga, 0, none⟩) 128 ca)).setAt 0 (by simp) (.slice (some ⟨gb, 0, none⟩) 128 cb)
      have m4 : MemC WX q4 0 [.slice none 0 0, .slice none 0 0] := by rw [hWX]; exact (M4d.out.setOther (by omega) _).setOther (by omega) _
      have PX := Lib.hid (show Mem8 WX ga 0 128 (spage s) by rw [hWX]; exact (Wrote.set _ _ _ _).far ((Wrote.set _ _ _ _).far P8d.out (.inl HNA.out)) (.inl HNA.out))
      have QX := Lib.hid (show Mem8 WX gb 0 128 (spage (nextS s t)) by rw [hWX]; exact (Wrote.set _ _ _ _).far ((Wrote.set _ _ _ _).far Q8d.out (.inl HNB.out)) (.inl HNB.out))
      have BX := Lib.hid (show Below w.heap.size w WX by rw [hWX]; exact (B8d.out.setCell (p := ⟨q4 + 1, 1, none⟩) HQ.out _).setCell (p := ⟨q4 + 1, 0, none⟩) HQ.out _)
      rw [← hWX]
      clear hWX d0 d1 f0 f1 d0' f0' hS hT hHeld
      obtain ⟨a0, b0⟩ := m6.gets 0 _ rfl
      obtain ⟨a1, b1⟩ := m6.gets 1 _ rfl
      obtain ⟨c0, e0⟩ := m4.gets 0 _ rfl
      obtain ⟨c1, e1⟩ := m4.gets 1 _ rfl
      clear b0 b1
      have M4 := Lib.hid m4
      clear m4 m6
      have HM := Lib.hid ((M4.out.setAt 0 (by simp) (.slice (some ⟨gb, 0, none⟩) 128 cb)).setAt 1 (by simp) (.slice (some ⟨ga, 0, none⟩) 128 ca))
      have HB := Lib.hid ((BX.out.setCell (p := ⟨q4, 0, none⟩) HQ4.out (.slice (some ⟨gb, 0, none⟩) 128 cb)).setCell (p := ⟨q4, 1, none⟩) HQ4.out (.slice (some ⟨ga, 0, none⟩) 128 ca))
      have PZ := Lib.hid (show Mem8 ((WX.setCell ⟨q4, 0, none⟩ (.slice (some ⟨gb, 0, none⟩) 128 cb)).setCell ⟨q4, 1, none⟩ (.slice (some ⟨ga, 0, none⟩) 128 ca)) ga 0 128 (spage s) from (Wrote.set _ _ _ _).far ((Wrote.set _ _ _ _).far PX.out (.inl HNA4.out)) (.inl HNA4.out))
      have QZ := Lib.hid (show Mem8 ((WX.setCell ⟨q4, 0, none⟩ (.slice (some ⟨gb, 0, none⟩) 128 cb)).setCell ⟨q4, 1, none⟩ (.slice (some ⟨ga, 0, none⟩) 128 ca)) gb 0 128 (spage (nextS s t)) from (Wrote.set _ _ _ _).far ((Wrote.set _ _ _ _).far QX.out (.inl HNB4.out)) (.inl HNB4.out))
      clear M4 BX PX QX
      go_wp2_with fail
      refine bodyPost_ret (v := .tuple #[.agg #[.slice (some ⟨gb, 0, none⟩) 128 cb, .slice (some ⟨ga, 0, none⟩) 128 ca], .bool true]) (by simp [results, Try.results23, Sem.run_bind, Sem.run_pure, asAddr, load_pair HM.out]) rfl ?_
      unfold wholeP slot0 slot1
      rw [if_pos ⟨HG1.out, HG2.out⟩]
      have h2 := HK.out
      refine ⟨_, _, _, _, rfl, Nat.le_of_lt (Nat.lt_of_le_of_lt LW.out LB.out), LW.out, (Nat.ne_of_lt LB.out).symm, hcb, hca, ?_, ?_, HB.out⟩
      · rw [if_neg (by omega)]; exact QZ.out
      · rw [if_neg (by omega)]; exact PZ.out
  · have HNG := Lib.hid hg
    have hx : encE s = 60 ∨ (encE s = 0 ∧ encE (nextS s t) = 60) := by
      cases h1 : rightS s
      · exact .inl (encL_bad h1).2
      · cases h2 : rightS (nextS s t)
        · exact .inr ⟨(encL_good h1).2, (encL_bad h2).2⟩
        · exact absurd ⟨h1, h2⟩ hg
    have HX := Lib.hid hx
    clear hx hg
    go_wp2_with (refine wl_load (.tmp 2) rfl (by rfl) w.heap.size s rfl S6.out ?_)
    refine (encode_u s _).mono ?_
    rintro e W7 ⟨A, m, d, rfl, _, _, hb⟩
    have B7 := Lib.hid (B6.out.trans (hb.mono B6.out.size))
    have T7 := Lib.hid (T6.out.keep hb)
    have M47 := Lib.hid (M46.out.keep hb)
    have M67 := Lib.hid (M66.out.keep hb)
    clear hb B6 S6 T6 M46 M66
    go_wp2_with (refine wl_load (.tmp 3) rfl (by rfl) q1 (nextS s t) rfl T7.out ?_)
    refine (encode_u (nextS s t) _).mono ?_
    rintro e W8 ⟨A2, m2, d2, rfl, _, _, hb⟩
    have B8 := Lib.hid (B7.out.trans (hb.mono B7.out.size))
    have M48 := M47.out.keep hb
    have M68 := M67.out.keep hb
    clear hb B7 T7 M47 M67
    obtain ⟨e40, f40⟩ := M48.gets 0 _ rfl
    obtain ⟨e41, f41⟩ := M48.gets 1 _ rfl
    obtain ⟨e60, f60⟩ := M68.gets 0 _ rfl
    obtain ⟨e61, f61⟩ := M68.gets 1 _ rfl
    have hL4 := Nat.le_of_lt (Nat.lt_trans HL1.out HL2.out)
    clear M68
    have M4 := Lib.hid M48
    clear M48
    have HM := Lib.hid ((M4.out.setAt 0 (by simp) (.slice none 0 0)).setAt 1 (by simp) (.slice none 0 0))
    have HB := Lib.hid ((B8.out.setCell (p := ⟨q4, 0, none⟩) hL4 (.slice none 0 0)).setCell (p := ⟨q4, 1, none⟩) hL4 (.slice none 0 0))
    clear M4 B8 hL4
    rcases HX.out with hx | ⟨hx, hy⟩
    · rw [hx]
      go_wp2_with fail
      refine bodyPost_ret (v := .tuple #[.agg #[.slice none 0 0, .slice none 0 0], .bool false]) (by simp [results, Try.results23, Sem.run_bind, Sem.run_pure, asAddr, load_pair HM.out]) rfl ?_
      unfold wholeP
      rw [if_neg HNG.out]
      exact ⟨rfl, HB.out⟩
    · rw [hx, hy]
      go_wp2_with fail
      refine bodyPost_ret (v := .tuple #[.agg #[.slice none 0 0, .slice none 0 0], .bool false]) (by simp [results, Try.results23, Sem.run_bind, Sem.run_pure, asAddr, load_pair HM.out]) rfl ?_
      unfold wholeP
      rw [if_neg HNG.out]
      exact ⟨rfl, HB.out⟩

end Go.Proofs.Ytfnoeligaapnbaa
