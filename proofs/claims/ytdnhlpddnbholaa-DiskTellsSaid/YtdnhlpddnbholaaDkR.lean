/-
  slices.Clone; Disk.Copy.
-/
import Derived.Test.YtdnhlpddnbholaaDkP
namespace Go.Proofs.Ytdnhlpddnbholaa
open Go.RowKit
set_option linter.unusedVariables false
set_option linter.unusedSimpArgs false
attribute [local go_sem ↓] Go.wp_at_zero Go.wp_at_succ

set_option maxRecDepth 20000 in
theorem clone_blocks (A : Option Addr) (n c : Nat) (xs : List Value) (w : World) (hl : xs.length = n * 128) (hr : Cells w A xs) (h1 : ∀ u ∈ xs, u.oneCell' = true) (hn : n ≤ 4096) (hA : A.isSome = true) :
    Calls Try.prog 40 #[.slice A n c] w fun e w' => ∃ v, e = .returned v ∧ v ≠ .slice none 0 0 ∧ w'.ownsRow w.heap.size 81 128 v n xs ∧ Below w.heap.size w w' := by
  have qn := fun (w : World) (a : Option Addr) (n c n' c' : Nat) => Lib.run_eql_slice_nil (P := Try.prog) w 70 _ a n c n' c' Try.underlying70
  obtain ⟨ad, rfl⟩ := Option.isSome_iff_exists.1 hA
  have HR := Lib.hid (hr.keep ((Below.refl _ w).alloc (Nat.le_refl _) (.cells #[] 81)))
  have HL := Lib.hid hl
  clear hr hl hA
  go_enter Try.func40, Try.ntmps40
  go_wp2_with (at_builtin; refine wpList_appendC rfl _ _ 70 rfl w.heap.size 81 (.agg (Array.replicate 128 (.int .u8 0))) 128 128 Try.underlying70 blockinfo (by kernel_rfl) (by omega) _ 0 [] rfl (World.ownsRow_lit w #[] 0 (Nat.le_refl _) (Nat.zero_le _) rfl) (some ad) n c xs rfl HL.out HR.out h1 (by simp only [maxLen]; omega) (by omega) (by simp) ?_)
  intro v' w3 hown hgrow hnil hblk
  have hb : Below w.heap.size w w3 := ((Below.refl _ w).alloc (Nat.le_refl _) (.cells #[] 81)).grown hgrow (by simp) (fun k hk => by simp [Value.ownBlock] at hk; omega)
  have hv : v' ≠ .slice none 0 0 := fun e => hnil e
  have HB := Lib.hid hb
  have HO := Lib.hid hown
  clear hown hgrow hblk hb hnil
  go_wp2_with fail
  go_ret
  exact ⟨_, rfl, hv, HO.out, HB.out⟩
set_option maxRecDepth 20000 in
theorem clone_some (A : Option Addr) (n c : Nat) (xs : List Value) (w : World) (hl : xs.length = n * 129) (hr : Cells w A xs) (h1 : ∀ u ∈ xs, u.oneCell' = true) (hn : n ≤ 4096) (hA : A.isSome = true) :
    Calls Try.prog 41 #[.slice A n c] w fun e w' => ∃ v, e = .returned v ∧ v ≠ .slice none 0 0 ∧ w'.ownsRow w.heap.size 83 129 v n xs ∧ Below w.heap.size w w' := by
  have qn := fun (w : World) (a : Option Addr) (n c n' c' : Nat) => Lib.run_eql_slice_nil (P := Try.prog) w 73 _ a n c n' c' Try.underlying73
  obtain ⟨ad, rfl⟩ := Option.isSome_iff_exists.1 hA
  have HR := Lib.hid (hr.keep ((Below.refl _ w).alloc (Nat.le_refl _) (.cells #[] 83)))
  have HL := Lib.hid hl
  clear hr hl hA
  go_enter Try.func41, Try.ntmps41
  go_wp2_with (at_builtin; refine wpList_appendC rfl _ _ 73 rfl w.heap.size 83 (wval nW) 129 136 Try.underlying73 writeinfo3 (by kernel_rfl) (by omega) _ 0 [] rfl (World.ownsRow_lit w #[] 0 (Nat.le_refl _) (Nat.zero_le _) rfl) (some ad) n c xs rfl HL.out HR.out h1 (by simp only [maxLen]; omega) (by omega) (by simp) ?_)
  intro v' w3 hown hgrow hnil hblk
  have hb : Below w.heap.size w w3 := ((Below.refl _ w).alloc (Nat.le_refl _) (.cells #[] 83)).grown hgrow (by simp) (fun k hk => by simp [Value.ownBlock] at hk; omega)
  have hv : v' ≠ .slice none 0 0 := fun e => hnil e
  have HB := Lib.hid hb
  have HO := Lib.hid hown
  clear hown hgrow hblk hb hnil
  go_wp2_with fail
  go_ret
  exact ⟨_, rfl, hv, HO.out, HB.out⟩
theorem clone_nil (w : World) : Calls Try.prog 41 #[.slice none 0 0] w fun e w' => e = .returned (.slice none 0 0) ∧ w = w' := by
  have qn := fun (w : World) (a : Option Addr) (n c n' c' : Nat) => Lib.run_eql_slice_nil (P := Try.prog) w 73 _ a n c n' c' Try.underlying73
  go_enter Try.func41, Try.ntmps41
  go_wp2
  go_ret
  exact ⟨rfl, rfl⟩

theorem wcells_oneL : ∀ (l : List (Nat × List UInt8)), ∀ u ∈ wcells l, u.oneCell' = true := fun l u hu => by
  unfold wcells at hu
  obtain ⟨x, _, hx⟩ := List.mem_flatMap.1 hu
  exact wcell_one x u hx
theorem clone_waits (w : World) {F : Nat → Prop} {p q c : Nat} {v : Value} {D : Dk} (h : DiskIn F w p q c v D) :
    Calls Try.prog 41 #[v] w fun e w' => ∃ v', e = .returned v' ∧ w'.ownsRow w.heap.size 83 129 v' D.waits.length (wcells D.waits) ∧ Below w.heap.size w w' := by
  have hlen := wcells_length D.waits fun x hx => (h.ok.wait x hx).2
  have hfew := h.ok.few
  rcases h.waits.2 with ⟨rfl, h0⟩ | ⟨g, cap, cur, rfl, hg, hh, hn, hm, _⟩
  · refine (clone_nil w).mono ?_
    rintro e w' ⟨rfl, rfl⟩
    have e0 : D.waits = [] := List.eq_nil_of_length_eq_zero h0
    exact ⟨_, rfl, by rw [e0]; exact ⟨rfl, .inl ⟨rfl, rfl⟩⟩, Below.refl _ _⟩
  · refine (clone_some _ _ cap (wcells D.waits) w hlen (MemC.of_ownC h.waits).1.cells (wcells_oneL _) (by omega) rfl).mono ?_
    rintro e w' ⟨v', rfl, _, ho, hb⟩
    exact ⟨v', rfl, ho, hb⟩

set_option maxRecDepth 100000 in
set_option maxHeartbeats 4000000 in
theorem copy_any {F : Nat → Prop} {p q c : Nat} {v : Value} {D : Dk} (w : World) (h : DiskIn F w p q c v D) (G : Nat → Prop) (hG : ∀ b, w.heap.size ≤ b → G b) :
    Calls Try.prog 26 #[.pointer (some ⟨p, 0, none⟩)] w fun e w' => ∃ p' q', e = .returned (.pointer (some ⟨p', 0, none⟩)) ∧ w.heap.size ≤ p' ∧ w.heap.size ≤ q' ∧ DiskAt G w' p' q' D ∧ Below w.heap.size w w' := by
  obtain ⟨Av, dv, rfl, _⟩ := h.slice
  have hq : ((mayE D) == 1) = false := by unfold mayE; split <;> rfl
  have HM := Lib.hid (may_any w ⟨_, _, h⟩)
  have HD := Lib.hid h
  have HG := Lib.hid hG
  obtain ⟨h0, _⟩ := h.head.get 0 _ rfl
  obtain ⟨h1, _⟩ := h.head.get 1 _ rfl
  obtain ⟨h2, _⟩ := h.head.get 2 _ rfl
  obtain ⟨h3, _⟩ := h.head.get 3 _ rfl
  generalize mayE D = me at *
  clear h hG
  go_enter Try.func26, Try.ntmps26
  go_wp2_with fail
  refine HM.out.mono ?_
  rintro e w' ⟨rfl, rfl⟩
  go_upto_region 4 with fail
  obtain ⟨w1, hw1⟩ : ∃ W : World, W = w.alloc (.cells #[.slice (some ⟨q, 0, none⟩) D.blks.length c, .slice Av D.waits.length dv, .int .i64 D.left, .bool D.down] 77) := ⟨_, rfl⟩
  have hb1 : Below w.heap.size w w1 := by rw [hw1]; exact (Below.refl _ w).alloc (Nat.le_refl _) _
  have hm1 : MemC w1 w.heap.size 0 [.slice (some ⟨q, 0, none⟩) D.blks.length c, .slice Av D.waits.length dv, .int .i64 D.left, .bool D.down] := by rw [hw1]; exact MemC.new w [.slice (some ⟨q, 0, none⟩) D.blks.length c, .slice Av D.waits.length dv, .int .i64 D.left, .bool D.down] _
  rw [← hw1]
  have bd : Below w1.heap.size w1 w1.drew := (Below.refl w1.heap.size w1).drew
  have hb2 := hb1.trans (bd.mono hb1.size)
  have D2 := Lib.hid (HD.out.keep hb2)
  have M2 := Lib.hid (hm1.keep bd)
  have B2 := Lib.hid hb2
  obtain ⟨w2, hw2⟩ : ∃ W : World, W = w1.drew := ⟨_, rfl⟩
  rw [← hw2] at D2 M2 B2
  have hS : w2.cell? ⟨p, 0, none⟩ = some (.slice (some ⟨q, 0, none⟩) D.blks.length c) ∧ w2.cell? ⟨p, 1, none⟩ = some (.slice Av D.waits.length dv) := ⟨(D2.out.head.get 0 _ rfl).1, (D2.out.head.get 1 _ rfl).1⟩
  refine wp_region_held_drew (S := fun w' => w'.cell? ⟨p, 0, none⟩ = some (.slice (some ⟨q, 0, none⟩) D.blks.length c) ∧ w'.cell? ⟨p, 1, none⟩ = some (.slice Av D.waits.length dv)) (by kernel_rfl) (by rw [← hw2]; exact hS) (fun hHeld => ?_)
  rw [← hw2] at hHeld ⊢
  have hpw : p < w.heap.size := HD.out.lt.1
  have HPW := Lib.hid hpw
  clear hw2 hw1 hb1 hm1 bd hb2 hS h0 h1 h2 h3 hq HD HM w1 hpw
  refine wpAnyH_take (i := 0) (v := .pointer (some ⟨p, 0, none⟩)) rfl (by kernel_rfl) (by kernel_rfl) (by kernel_rfl) (fun _ _ _ h => h) (Or.inl ⟨by kernel_rfl, fun w _ => by go_simp⟩) hHeld ?_
  try simp only [Act.put, List.getElem_toArray, List.getElem_cons_succ, List.getElem_cons_zero, List.setIfInBounds_toArray, List.set_cons_zero, List.set_cons_succ]
  refine wpAnyH_take (i := 1) (v := .pointer (some ⟨p, 0, none⟩)) rfl (by kernel_rfl) (by kernel_rfl) (by kernel_rfl) (fun _ _ _ h => h) (Or.inl ⟨by kernel_rfl, fun w _ => by go_simp⟩) hHeld ?_
  try simp only [Act.put, List.getElem_toArray, List.getElem_cons_succ, List.getElem_cons_zero, List.setIfInBounds_toArray, List.set_cons_zero, List.set_cons_succ]
  refine wpAnyH_take (i := 2) (v := .pointer (some ⟨p, 0, none⟩)) rfl (by kernel_rfl) (by kernel_rfl) (by kernel_rfl) (fun _ _ _ h => h) (Or.inl ⟨by kernel_rfl, fun w _ => by go_simp⟩) hHeld ?_
  try simp only [Act.put, List.getElem_toArray, List.getElem_cons_succ, List.getElem_cons_zero, List.setIfInBounds_toArray, List.set_cons_zero, List.set_cons_succ]
  refine wpAnyH_take (i := 3) (v := .pointer (some ⟨p, 0, none⟩)) rfl (by kernel_rfl) (by kernel_rfl) (by kernel_rfl) (fun _ _ _ h => h) (Or.inl ⟨by kernel_rfl, fun w _ => by go_simp⟩) hHeld ?_
  try simp only [Act.put, List.getElem_toArray, List.getElem_cons_succ, List.getElem_cons_zero, List.setIfInBounds_toArray, List.set_cons_zero, List.set_cons_succ]
  refine wpAnyH_take (i := 4) (v := .slice (some ⟨q, 0, none⟩) D.blks.length c) rfl (by kernel_rfl) (by kernel_rfl) (by kernel_rfl) (fun _ _ _ h => h) (Or.inl ⟨by kernel_rfl, fun w h => by have hc := h.1; go_simp⟩) hHeld ?_
  try simp only [Act.put, List.getElem_toArray, List.getElem_cons_succ, List.getElem_cons_zero, List.setIfInBounds_toArray, List.set_cons_zero, List.set_cons_succ]
  refine wpAnyH_take (i := 6) (v := .pointer (some ⟨p, 0, none⟩)) rfl (by kernel_rfl) (by kernel_rfl) (by kernel_rfl) (fun _ _ _ h => h) (Or.inl ⟨by kernel_rfl, fun w _ => by go_simp⟩) hHeld ?_
  try simp only [Act.put, List.getElem_toArray, List.getElem_cons_succ, List.getElem_cons_zero, List.setIfInBounds_toArray, List.set_cons_zero, List.set_cons_succ]
  refine wpAnyH_take (i := 7) (v := .pointer (some ⟨p, 0, none⟩)) rfl (by kernel_rfl) (by kernel_rfl) (by kernel_rfl) (fun _ _ _ h => h) (Or.inl ⟨by kernel_rfl, fun w _ => by go_simp⟩) hHeld ?_
  try simp only [Act.put, List.getElem_toArray, List.getElem_cons_succ, List.getElem_cons_zero, List.setIfInBounds_toArray, List.set_cons_zero, List.set_cons_succ]
  refine wpAnyH_take (i := 8) (v := .pointer (some ⟨p, 1, none⟩)) rfl (by kernel_rfl) (by kernel_rfl) (by kernel_rfl) (fun _ _ _ h => h) (Or.inl ⟨by kernel_rfl, fun w _ => by go_simp⟩) hHeld ?_
  try simp only [Act.put, List.getElem_toArray, List.getElem_cons_succ, List.getElem_cons_zero, List.setIfInBounds_toArray, List.set_cons_zero, List.set_cons_succ]
  refine wpAnyH_take (i := 9) (v := .pointer (some ⟨p, 1, none⟩)) rfl (by kernel_rfl) (by kernel_rfl) (by kernel_rfl) (fun _ _ _ h => h) (Or.inl ⟨by kernel_rfl, fun w _ => by go_simp⟩) hHeld ?_
  try simp only [Act.put, List.getElem_toArray, List.getElem_cons_succ, List.getElem_cons_zero, List.setIfInBounds_toArray, List.set_cons_zero, List.set_cons_succ]
  refine wpAnyH_take (i := 10) (v := .slice Av D.waits.length dv) rfl (by kernel_rfl) (by kernel_rfl) (by kernel_rfl) (fun _ _ _ h => h) (Or.inl ⟨by kernel_rfl, fun w h => by have hc := h.2; go_simp⟩) hHeld ?_
  try simp only [Act.put, List.getElem_toArray, List.getElem_cons_succ, List.getElem_cons_zero, List.setIfInBounds_toArray, List.set_cons_zero, List.set_cons_succ]
  refine wpAnyH_ready (rs := [5]) (by kernel_rfl) (by simp) ?_
  refine AllReadyH.cons rfl (fun K hK => ?_) AllReadyH.nil
  go_simp
  go_at_call 40
  refine (clone_blocks (some ⟨q, 0, none⟩) D.blks.length c (b8 (flat D.blks)) _ (by rw [b8_length, flat_length _ D2.out.ok.blk, Nat.mul_comm]) (fun _ => ⟨q, 0, rfl, D2.out.blks.cellsAt⟩) (b8_one _) D2.out.ok.many rfl).mono ?_
  rintro e w3 ⟨v3, rfl, hv3, hown3, hb3⟩
  obtain ⟨q3, c3, rfl, hq3, hc3, hcm3, _⟩ := own_shapeC hown3 hv3
  have hm3 := (MemC.of_ownC hown3).1.mem8
  rw [flat_length _ D2.out.ok.blk] at hm3
  have F3 := Lib.hid hm3
  have D3 := Lib.hid (D2.out.keep hb3)
  have M3 := Lib.hid (M2.out.keep hb3)
  have B3 := Lib.hid (B2.out.trans (hb3.mono B2.out.size))
  have HQ3 := Lib.hid hq3
  have HC3 := Lib.hid (And.intro hc3 hcm3)
  have L2 := Lib.hid B2.out.size
  have L2b := Lib.hid M2.out.at_.lt
  refine hK.out _ _ ⟨(D3.out.head.get 0 _ rfl).1, (D3.out.head.get 1 _ rfl).1⟩ (fun hHeld => ?_)
  try simp only [Act.put, List.getElem_toArray, List.getElem_cons_succ, List.getElem_cons_zero, List.setIfInBounds_toArray, List.set_cons_zero, List.set_cons_succ]
  clear hv3 hown3 hb3 hm3 hq3 hc3 hcm3 D2 M2 B2
  refine wpAnyH_ready (rs := [11]) (by kernel_rfl) (by simp) ?_
  refine AllReadyH.cons rfl (fun K hK => ?_) AllReadyH.nil
  go_simp
  go_at_call 41
  refine (clone_waits _ D3.out).mono ?_
  rintro e w4 ⟨v4, rfl, hown4, hb4⟩
  have hlt4 : ∀ g, v4.ownBlock = some g → w3.heap.size ≤ g := fun g hg => own_base hown4 g hg
  have F4 := Lib.hid (F3.out.keep hb4)
  have D4 := Lib.hid (D3.out.keep hb4)
  have M4 := Lib.hid (M3.out.keep hb4)
  have B4 := Lib.hid (B3.out.trans (hb4.mono B3.out.size))
  have H4 := Lib.hid hlt4
  have O4 := Lib.hid hown4
  have L3 := Lib.hid M3.out.at_.lt
  have L3q := Lib.hid F3.out.lt
  have hsh : ∃ A d, v4 = .slice A D.waits.length d := by
    rcases hown4.2 with ⟨e, h0⟩ | ⟨g, cap, cur, e, _⟩
    · exact ⟨none, 0, by rw [e, h0]⟩
    · exact ⟨_, _, e⟩
  refine hK.out _ _ ⟨(D4.out.head.get 0 _ rfl).1, (D4.out.head.get 1 _ rfl).1⟩ (fun hHeld => ?_)
  try simp only [Act.put, List.getElem_toArray, List.getElem_cons_succ, List.getElem_cons_zero, List.setIfInBounds_toArray, List.set_cons_zero, List.set_cons_succ]
  clear hown4 hb4 hlt4 D3 M3 B3 F3
  obtain ⟨A4, d4, rfl⟩ := hsh
  refine wpAnyH_take (i := 12) (v := .pointer (some ⟨w.heap.size, 0, none⟩)) rfl (by kernel_rfl) (by kernel_rfl) (by kernel_rfl) (fun _ _ _ h => h) (Or.inl ⟨by kernel_rfl, fun w _ => by go_simp⟩) hHeld ?_
  try simp only [Act.put, List.getElem_toArray, List.getElem_cons_succ, List.getElem_cons_zero, List.setIfInBounds_toArray, List.set_cons_zero, List.set_cons_succ]
  refine wpAnyH_take (i := 13) (v := .pointer (some ⟨w.heap.size, 0, none⟩)) rfl (by kernel_rfl) (by kernel_rfl) (by kernel_rfl) (fun _ _ _ h => h) (Or.inl ⟨by kernel_rfl, fun w _ => by go_simp⟩) hHeld ?_
  try simp only [Act.put, List.getElem_toArray, List.getElem_cons_succ, List.getElem_cons_zero, List.setIfInBounds_toArray, List.set_cons_zero, List.set_cons_succ]
  obtain ⟨k0, j0⟩ := M4.out.get 0 _ rfl
  refine wpAnyH_ready (rs := [14]) (by kernel_rfl) (by simp) ?_
  refine AllReadyH.cons rfl (fun K hK => ?_) AllReadyH.nil
  go_simp
  have hp2 := HPW.out
  have M5 := Lib.hid (M4.out.setAt 0 (by simp) (.slice (some ⟨q3, 0, none⟩) D.blks.length c3))
  have t5 := Turn.set (F := fun j => j = w.heap.size) w4 (i := 0) rfl (.slice (some ⟨q3, 0, none⟩) D.blks.length c3)
  have H5 := D4.out.head.turn t5 (by omega)
  have l3 := L3.out
  have l3q := L3q.out
  have lq3 := HQ3.out
  have l2b := L2b.out
  have F5 := F4.out.turn t5 (by omega)
  have O5 := own_turn O4.out t5 (fun g hg => by have := H4.out g hg; omega)
  refine hK.out _ _ ⟨(H5.get 0 _ rfl).1, (H5.get 1 _ rfl).1⟩ (fun hHeld => ?_)
  try simp only [Act.put, List.getElem_toArray, List.getElem_cons_succ, List.getElem_cons_zero, List.setIfInBounds_toArray, List.set_cons_zero, List.set_cons_succ]
  clear k0 j0
  refine wpAnyH_take (i := 15) (v := .pointer (some ⟨w.heap.size, 1, none⟩)) rfl (by kernel_rfl) (by kernel_rfl) (by kernel_rfl) (fun _ _ _ h => h) (Or.inl ⟨by kernel_rfl, fun w _ => by go_simp⟩) hHeld ?_
  try simp only [Act.put, List.getElem_toArray, List.getElem_cons_succ, List.getElem_cons_zero, List.setIfInBounds_toArray, List.set_cons_zero, List.set_cons_succ]
  refine wpAnyH_take (i := 16) (v := .pointer (some ⟨w.heap.size, 1, none⟩)) rfl (by kernel_rfl) (by kernel_rfl) (by kernel_rfl) (fun _ _ _ h => h) (Or.inl ⟨by kernel_rfl, fun w _ => by go_simp⟩) hHeld ?_
  try simp only [Act.put, List.getElem_toArray, List.getElem_cons_succ, List.getElem_cons_zero, List.setIfInBounds_toArray, List.set_cons_zero, List.set_cons_succ]
  obtain ⟨k1, j1⟩ := M5.out.get 1 _ rfl
  refine wpAnyH_ready (rs := [17]) (by kernel_rfl) (by simp) ?_
  refine AllReadyH.cons rfl (fun K hK => ?_) AllReadyH.nil
  go_simp
  have M6 := Lib.hid (M5.out.setAt 1 (by simp) (.slice A4 D.waits.length d4))
  have t6 := Turn.set (F := fun j => j = w.heap.size) (w4.setCell ⟨w.heap.size, 0, none⟩ (.slice (some ⟨q3, 0, none⟩) D.blks.length c3)) (i := 1) rfl (.slice A4 D.waits.length d4)
  have H6 := H5.turn t6 (by omega)
  have F6 := Lib.hid (F5.turn t6 (by omega))
  have O6 := Lib.hid (own_turn O5 t6 (fun g hg => by have := H4.out g hg; omega))
  refine hK.out _ _ ⟨(H6.get 0 _ rfl).1, (H6.get 1 _ rfl).1⟩ (fun hHeld => ?_)
  try simp only [Act.put, List.getElem_toArray, List.getElem_cons_succ, List.getElem_cons_zero, List.setIfInBounds_toArray, List.set_cons_zero, List.set_cons_succ]
  refine wpAnyH_done (by kernel_rfl) ?_ _
  have B6 := Lib.hid ((B4.out.trans (t5.below (fun k e => Nat.le_of_eq e.symm) B4.out.size)).trans (t6.below (fun k e => Nat.le_of_eq e.symm) (by rw [show ((w4.setCell ⟨w.heap.size, 0, none⟩ (.slice (some ⟨q3, 0, none⟩) D.blks.length c3)).heap.size) = w4.heap.size by simp [World.setCell]]; exact B4.out.size)))
  have OWN : Hid (((w4.setCell ⟨w.heap.size, 0, none⟩ (.slice (some ⟨q3, 0, none⟩) D.blks.length c3)).setCell ⟨w.heap.size, 1, none⟩ (.slice A4 D.waits.length d4)).ownsRow 0 83 129 (.slice A4 D.waits.length d4) D.waits.length (wcells D.waits)) := Lib.hid ⟨O6.out.1, O6.out.2.imp id fun ⟨g, cap, cur, e1, _, r⟩ => ⟨g, cap, cur, e1, Nat.zero_le _, r⟩⟩
  have HFIN : Hid (DiskAt G ((w4.setCell ⟨w.heap.size, 0, none⟩ (.slice (some ⟨q3, 0, none⟩) D.blks.length c3)).setCell ⟨w.heap.size, 1, none⟩ (.slice A4 D.waits.length d4)) w.heap.size q3 D) := Lib.hid ⟨c3, .slice A4 D.waits.length d4, D4.out.ok, M6.out, HC3.out.1, HC3.out.2, F6.out, OWN.out, HG.out _ (Nat.le_refl _), HG.out _ (by omega), fun g hg => HG.out _ (by have := H4.out g hg; omega), fun b hb => HG.out _ (Nat.le_trans B6.out.size hb), by omega, fun e => by have := H4.out _ e; omega, fun e => by have := H4.out _ e; omega⟩
  have HQF : Hid (w.heap.size ≤ q3) := Lib.hid (by omega)
  clear hHeld k1 j1 t5 t6 H5 H6 F5 O5
  go_wp2_with fail
  go_ret
  exact ⟨_, _, rfl, Nat.le_refl _, HQF.out, HFIN.out, B6.out⟩

end Go.Proofs.Ytdnhlpddnbholaa
