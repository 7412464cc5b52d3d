/-
  DiskTells: the walk.
-/
import Derived.Test.YtdnhlpddnbholaaDkZg
namespace Go.Proofs.Ytdnhlpddnbholaa
open Go.RowKit
set_option linter.unusedVariables false
set_option linter.unusedSimpArgs false
attribute [local go_sem ↓] Go.wp_at_zero Go.wp_at_succ

theorem both_start {w1 w2 w3 : World} {B0 p q n : Nat} (h16 : 16 ≤ n) (h40 : n ≤ 4096) (hd : DiskAt (fun b => B0 ≤ b) w1 p q (newD n)) (hb : Below w1.heap.size w1 w2) (hB : B0 ≤ w2.heap.size)
    (hw : w3 = w2.alloc (.cells #[.int .i64 (n : Int), .slice none 0 0, .slice none 0 0, .int .i64 (-1), .bool false] 51)) : Both (fun b => B0 ≤ b) w3 p q w2.heap.size (newD n) (newD n) [] := by
  have h3 : Below w2.heap.size w2 w3 := by rw [hw]; exact (Below.refl _ w2).alloc (Nat.le_refl _) _
  have hm : MemC w3 w2.heap.size 0 [.int .i64 (n : Int), .slice none 0 0, .slice none 0 0, .int .i64 (-1), .bool false] := by rw [hw]; exact MemC.new w2 [.int .i64 (n : Int), .slice none 0 0, .slice none 0 0, .int .i64 (-1), .bool false] _
  obtain ⟨c, v, hd⟩ := hd
  have hd2 := hd.keep hb
  have hd3 := hd2.keep h3
  have hbl : (newD n).blks.length = n := by simp [newD]
  have hs : w3.heap.size = w2.heap.size + 1 := by rw [hw]; simp
  refine ⟨c, v, none, 0, none, 0, hd3, ⟨newD_ok n h16 h40, ?_, Cells.nil _ _, Cells.nil _ _, Nat.le_refl _, Nat.zero_le _, Nat.le_refl _, Nat.zero_le _, (fun x hx => by cases hx), fun a ha => ?_, Nat.zero_le _, hB, (fun a e => by cases e), (fun a e => by cases e), fun b hb => by omega⟩, ?_, (fun a e => by cases e), (fun a e => by cases e)⟩
  · rw [hbl]
    exact hm
  · rw [hbl] at ha
    show List.replicate 128 0 = (List.replicate n (List.replicate 128 (0 : UInt8))).getD a []
    rw [List.getD_eq_getElem?_getD, List.getElem?_replicate, if_pos ha]
    rfl
  · have hl := hd2.lt
    rintro (h | h | h | h)
    · omega
    · omega
    · have := (hd2.waits.lt _ h).2; omega
    · omega

theorem u8_next (x : UInt8) : IntKind.u8.wrap ((x.toNat : Int) + 1) = ((x + 1).toNat : Int) := by
  have h1 := x.toNat_lt
  rw [UInt8.toNat_add]
  show IntKind.u8.wrap ((x.toNat : Int) + 1) = (((x.toNat + 1) % 2 ^ 8 : Nat) : Int)
  by_cases h : x.toNat = 255
  · rw [h]
    rfl
  · rw [IntWalk.u8_in _ (by omega), Nat.mod_eq_of_lt (by omega)]
    omega

set_option maxRecDepth 100000 in
set_option maxHeartbeats 4000000 in
theorem tells_out (n : Int) (A : Option Addr) (m c : Nat) (w : World) (h1 : n < 16 ∨ 40 < n) :
    Calls Try.prog 5 #[.int .i64 n, .slice A m c] w fun e w' => e = .returned (.bool true) ∧ Below w.heap.size w w' := by
  by_cases hg : 40 < n ∧ n ≤ 4096
  · obtain ⟨g1, g2⟩ := hg
    clear h1
    go_enter Try.func5, Try.ntmps5
    go_wp2_with fail
    refine (awake_any _).mono ?_
    rintro e w1 ⟨rfl, hb⟩
    have HB := Lib.hid hb
    clear hb
    go_wp2_with fail
    go_ret
    exact ⟨rfl, HB.out⟩
  · have hbad : n < 16 ∨ 4096 < n := by omega
    have HBAD := Lib.hid hbad
    have ways : (¬ 40 < n) ∨ (40 < n ∧ ¬ n ≤ 4096) := by omega
    clear h1 hg hbad
    rcases ways with g1 | ⟨g1, g2⟩
    all_goals
      go_enter Try.func5, Try.ntmps5
      go_wp2_with fail
      refine (new_bad n _ HBAD.out).mono ?_
      rintro e w' ⟨rfl, rfl⟩
      go_wp2_with fail
      refine (newref_bad n _ HBAD.out).mono ?_
      rintro e w2 ⟨rfl, hb⟩
      have HB := Lib.hid hb
      clear hb
      go_wp2_with fail
      refine (awake_any _).mono ?_
      rintro e w4 ⟨rfl, hb⟩
      have HB4 := Lib.hid ((HB.out.alloc HB.out.size (.cells #[.int .i64 0, .slice none 0 0, .slice none 0 0, .int .i64 0, .bool false] 51)).trans (hb.mono (by have := HB.out.size; simp; omega)))
      clear hb
      go_wp2_with fail
      go_ret
      exact ⟨rfl, HB4.out⟩

set_option maxRecDepth 100000 in
set_option maxHeartbeats 8000000 in
theorem tells_in (n : Nat) (A : Option Addr) (m c : Nat) (l : List OpL) (w : World) (h16 : 16 ≤ n) (h40 : n ≤ 40) (hl : l.length = m) (hc : Cells w A (opcells l)) (ho : ∀ o ∈ l, OpOk w o) (hm : m ≤ maxLen) :
    Calls Try.prog 5 #[.int .i64 (n : Int), .slice A m c] w fun e w' => e = .returned (.bool true) ∧ Below w.heap.size w w' := by
  subst hl
  have g1 : ¬ (40 : Int) < (n : Int) := by omega
  have HC := Lib.hid hc
  have HO := Lib.hid ho
  unfold maxLen at hm
  clear hc ho
  go_enter Try.func5, Try.ntmps5
  go_wp2_with fail
  refine (new_good n _ h16 (by omega) (fun b => w.heap.size ≤ b) (fun b h => h)).mono ?_
  rintro e w1 ⟨p, q, rfl, _, _, hd, hb⟩
  have D1 := Lib.hid hd
  have B1 := Lib.hid hb
  clear hd hb
  go_wp2_with fail
  refine (newref_good n _ h16 (by omega)).mono ?_
  rintro e w2 ⟨rfl, hb2⟩
  have B2 := Lib.hid (B1.out.trans (hb2.mono B1.out.size))
  have HB2 := Lib.hid hb2
  clear hb2
  go_upto_region 9 with fail
  obtain ⟨w3, hw3⟩ : ∃ V : World, V = w2.alloc (.cells #[.int .i64 (n : Int), .slice none 0 0, .slice none 0 0, .int .i64 (-1), .bool false] 51) := ⟨_, rfl⟩
  have hb3 : Below w2.heap.size w2 w3 := by rw [hw3]; exact (Below.refl _ w2).alloc (Nat.le_refl _) _
  have H3 := Lib.hid (both_start h16 (by omega) D1.out HB2.out B2.out.size hw3)
  have B3 := Lib.hid (B2.out.trans (hb3.mono B2.out.size))
  rw [← hw3]
  obtain ⟨r, hr⟩ : ∃ r, r = w2.heap.size := ⟨_, rfl⟩
  rw [← hr] at H3 ⊢
  clear hb3 hw3 hr D1 B1 HB2 B2
  go_wp2_with fail
  go_loopw [9] (fun i wr => ∃ k : Nat, k ≤ 40 ∧ k ≤ l.length ∧ i = .int .i64 (k : Int) ∧ (∃ D C, Both (fun b => w.heap.size ≤ b) wr p q r D D C ∧ C.length + D.waits.length ≤ k) ∧ Below w.heap.size w wr) (fun i _ => 40 - (intOf i).toNat)
  case atStart => exact ⟨0, Nat.zero_le _, Nat.zero_le _, rfl, ⟨_, _, H3.out, Nat.le_refl _⟩, B3.out⟩
  case round =>
    obtain ⟨k, hk40, hkl, rfl, ⟨D, C, hboth, hfew⟩, hb⟩ := hrel
    have HH := Lib.hid hboth
    have HB := Lib.hid hb
    have HF := Lib.hid hfew
    clear hboth hb hfew H3 B3
    by_cases hin : k < l.length ∧ k < 40
    · obtain ⟨hlt, hlt40⟩ := hin
      have k0 : (0 : Int) ≤ (k : Int) := by omega
      have k1 : (k : Int) < (l.length : Int) := by omega
      have k2 : (k : Int) < 40 := by omega
      have kw : IntKind.i64.wrap ((k : Int) + 1) = (k : Int) + 1 := IntWalk.i64_in _ (by omega)
      have HOK := Lib.hid (HO.out _ (List.getElem_mem hlt))
      obtain ⟨ab, ao, rfl, hab, hop⟩ := HC.out.op hlt
      obtain ⟨o, ho⟩ : ∃ o, o = l[k]'hlt := ⟨_, rfl⟩
      rw [← ho] at HOK hop
      have HOP := Lib.hid hop
      have HAB := Lib.hid hab
      have HCL : Hid (∀ w', Below w.heap.size w w' → w'.cell? ⟨ab, ao + k * 6, none⟩ = some (.int .u8 (o.what.toNat : Int)) ∧ w'.cell? ⟨ab, ao + k * 6 + 1, none⟩ = some (.int .i64 o.at_) ∧ w'.cell? ⟨ab, ao + k * 6 + 2, none⟩ = some (.slice o.B o.bn o.bc) ∧ w'.cell? ⟨ab, ao + k * 6 + 3, none⟩ = some (.slice o.K o.kn o.kc) ∧ w'.cell? ⟨ab, ao + k * 6 + 4, none⟩ = some (.int .i64 o.torn) ∧ w'.cell? ⟨ab, ao + k * 6 + 5, none⟩ = some (.int .i64 o.cut)) := Lib.hid fun w' hb =>
        ⟨(hb.cell (p := ⟨ab, ao + k * 6, none⟩) HAB.out).trans (HOP.out 0 _ rfl), (hb.cell (p := ⟨ab, ao + k * 6 + 1, none⟩) HAB.out).trans (HOP.out 1 _ rfl), (hb.cell (p := ⟨ab, ao + k * 6 + 2, none⟩) HAB.out).trans (HOP.out 2 _ rfl), (hb.cell (p := ⟨ab, ao + k * 6 + 3, none⟩) HAB.out).trans (HOP.out 3 _ rfl), (hb.cell (p := ⟨ab, ao + k * 6 + 4, none⟩) HAB.out).trans (HOP.out 4 _ rfl), (hb.cell (p := ⟨ab, ao + k * 6 + 5, none⟩) HAB.out).trans (HOP.out 5 _ rfl)⟩
      clear hab hop ho
      have hcb := (HCL.out _ HB.out).2.2.1
      go_wp2_with fail
      refine (again_any o.B o.bn o.bc o.bs _ (HOK.out.b.keep HB.out) (Nat.le_trans HOK.out.bcap HOK.out.bmax)).mono ?_
      rintro e w4 ⟨v, rfl, g, cg, rfl, hg, hgc, hgm, hm8, hb4⟩
      have H4 := Lib.hid (HH.out.apart hb4 hg hm8.lt)
      have B4 := Lib.hid (HB.out.trans (hb4.mono HB.out.size))
      have M4 := Lib.hid hm8
      have HG := Lib.hid (Nat.le_trans HB.out.size hg)
      clear hb4 hg hm8 HH HB hcb
      go_upto_region 13 with fail
      obtain ⟨W, hW⟩ : ∃ V : World, V = w4.drew := ⟨_, rfl⟩
      have bd : Below w4.heap.size w4 W := by rw [hW]; exact (Below.refl w4.heap.size w4).drew
      have HD := Lib.hid (H4.out.keep bd)
      have BD := Lib.hid (B4.out.trans (bd.mono B4.out.size))
      have MD := Lib.hid (M4.out.keep bd)
      refine wp_region_held_drew (S := fun w' => w'.cell? ⟨ab, ao + k * 6, none⟩ = some (.int .u8 (o.what.toNat : Int)) ∧ w'.cell? ⟨ab, ao + k * 6 + 1, none⟩ = some (.int .i64 o.at_) ∧ w'.cell? ⟨ab, ao + k * 6 + 2, none⟩ = some (.slice o.B o.bn o.bc) ∧ w'.cell? ⟨ab, ao + k * 6 + 3, none⟩ = some (.slice o.K o.kn o.kc) ∧ w'.cell? ⟨ab, ao + k * 6 + 4, none⟩ = some (.int .i64 o.torn) ∧ w'.cell? ⟨ab, ao + k * 6 + 5, none⟩ = some (.int .i64 o.cut)) (by kernel_rfl) (by rw [← hW]; exact HCL.out _ BD.out) (fun hHeld => ?_)
      rw [← hW] at hHeld ⊢
      clear hW bd H4 B4 M4
      refine wpAnyH_take (i := 0) (v := .pointer (some ⟨p, 0, none⟩)) rfl (by kernel_rfl) (by kernel_rfl) (by kernel_rfl) (fun _ _ _ h => h) (Or.inl ⟨by kernel_rfl, fun w _ => by go_simp⟩) hHeld ?_
      try simp only [Act.put, List.getElem_toArray, List.getElem_cons_succ, List.getElem_cons_zero, List.setIfInBounds_toArray, List.set_cons_zero, List.set_cons_succ]
      refine wpAnyH_take (i := 1) (v := .slice (some ⟨ab, ao, none⟩) l.length c) rfl (by kernel_rfl) (by kernel_rfl) (by kernel_rfl) (fun _ _ _ h => h) (Or.inl ⟨by kernel_rfl, fun w _ => by go_simp⟩) hHeld ?_
      try simp only [Act.put, List.getElem_toArray, List.getElem_cons_succ, List.getElem_cons_zero, List.setIfInBounds_toArray, List.set_cons_zero, List.set_cons_succ]
      refine wpAnyH_take (i := 2) (v := .int .i64 (k : Int)) rfl (by kernel_rfl) (by kernel_rfl) (by kernel_rfl) (fun _ _ _ h => h) (Or.inl ⟨by kernel_rfl, fun w _ => by go_simp⟩) hHeld ?_
      try simp only [Act.put, List.getElem_toArray, List.getElem_cons_succ, List.getElem_cons_zero, List.setIfInBounds_toArray, List.set_cons_zero, List.set_cons_succ]
      refine wpAnyH_take (i := 3) (v := .pointer (some ⟨ab, ao + k * 6, none⟩)) rfl (by kernel_rfl) (by kernel_rfl) (by kernel_rfl) (fun _ _ _ h => h) (Or.inl ⟨by kernel_rfl, fun w _ => by go_simp⟩) hHeld ?_
      try simp only [Act.put, List.getElem_toArray, List.getElem_cons_succ, List.getElem_cons_zero, List.setIfInBounds_toArray, List.set_cons_zero, List.set_cons_succ]
      refine wpAnyH_take (i := 4) (v := .pointer (some ⟨ab, ao + k * 6, none⟩)) rfl (by kernel_rfl) (by kernel_rfl) (by kernel_rfl) (fun _ _ _ h => h) (Or.inl ⟨by kernel_rfl, fun w _ => by go_simp⟩) hHeld ?_
      try simp only [Act.put, List.getElem_toArray, List.getElem_cons_succ, List.getElem_cons_zero, List.setIfInBounds_toArray, List.set_cons_zero, List.set_cons_succ]
      refine wpAnyH_take (i := 5) (v := .int .u8 (o.what.toNat : Int)) rfl (by kernel_rfl) (by kernel_rfl) (by kernel_rfl) (fun _ _ _ h => h) (Or.inl ⟨by kernel_rfl, fun w h => by have hc := h.1; go_simp⟩) hHeld ?_
      try simp only [Act.put, List.getElem_toArray, List.getElem_cons_succ, List.getElem_cons_zero, List.setIfInBounds_toArray, List.set_cons_zero, List.set_cons_succ]
      refine wpAnyH_take (i := 6) (v := .slice (some ⟨ab, ao, none⟩) l.length c) rfl (by kernel_rfl) (by kernel_rfl) (by kernel_rfl) (fun _ _ _ h => h) (Or.inl ⟨by kernel_rfl, fun w _ => by go_simp⟩) hHeld ?_
      try simp only [Act.put, List.getElem_toArray, List.getElem_cons_succ, List.getElem_cons_zero, List.setIfInBounds_toArray, List.set_cons_zero, List.set_cons_succ]
      refine wpAnyH_take (i := 7) (v := .int .i64 (k : Int)) rfl (by kernel_rfl) (by kernel_rfl) (by kernel_rfl) (fun _ _ _ h => h) (Or.inl ⟨by kernel_rfl, fun w _ => by go_simp⟩) hHeld ?_
      try simp only [Act.put, List.getElem_toArray, List.getElem_cons_succ, List.getElem_cons_zero, List.setIfInBounds_toArray, List.set_cons_zero, List.set_cons_succ]
      refine wpAnyH_take (i := 8) (v := .pointer (some ⟨ab, ao + k * 6, none⟩)) rfl (by kernel_rfl) (by kernel_rfl) (by kernel_rfl) (fun _ _ _ h => h) (Or.inl ⟨by kernel_rfl, fun w _ => by go_simp⟩) hHeld ?_
      try simp only [Act.put, List.getElem_toArray, List.getElem_cons_succ, List.getElem_cons_zero, List.setIfInBounds_toArray, List.set_cons_zero, List.set_cons_succ]
      refine wpAnyH_take (i := 9) (v := .pointer (some ⟨ab, ao + k * 6 + 1, none⟩)) rfl (by kernel_rfl) (by kernel_rfl) (by kernel_rfl) (fun _ _ _ h => h) (Or.inl ⟨by kernel_rfl, fun w _ => by go_simp⟩) hHeld ?_
      try simp only [Act.put, List.getElem_toArray, List.getElem_cons_succ, List.getElem_cons_zero, List.setIfInBounds_toArray, List.set_cons_zero, List.set_cons_succ]
      refine wpAnyH_take (i := 10) (v := .int .i64 o.at_) rfl (by kernel_rfl) (by kernel_rfl) (by kernel_rfl) (fun _ _ _ h => h) (Or.inl ⟨by kernel_rfl, fun w h => by have hc := h.2.1; go_simp⟩) hHeld ?_
      try simp only [Act.put, List.getElem_toArray, List.getElem_cons_succ, List.getElem_cons_zero, List.setIfInBounds_toArray, List.set_cons_zero, List.set_cons_succ]
      refine wpAnyH_take (i := 11) (v := .slice (some ⟨g, 0, none⟩) o.bs.length cg) rfl (by kernel_rfl) (by kernel_rfl) (by kernel_rfl) (fun _ _ _ h => h) (Or.inl ⟨by kernel_rfl, fun w _ => by go_simp⟩) hHeld ?_
      try simp only [Act.put, List.getElem_toArray, List.getElem_cons_succ, List.getElem_cons_zero, List.setIfInBounds_toArray, List.set_cons_zero, List.set_cons_succ]
      refine wpAnyH_take (i := 12) (v := .slice (some ⟨ab, ao, none⟩) l.length c) rfl (by kernel_rfl) (by kernel_rfl) (by kernel_rfl) (fun _ _ _ h => h) (Or.inl ⟨by kernel_rfl, fun w _ => by go_simp⟩) hHeld ?_
      try simp only [Act.put, List.getElem_toArray, List.getElem_cons_succ, List.getElem_cons_zero, List.setIfInBounds_toArray, List.set_cons_zero, List.set_cons_succ]
      refine wpAnyH_take (i := 13) (v := .int .i64 (k : Int)) rfl (by kernel_rfl) (by kernel_rfl) (by kernel_rfl) (fun _ _ _ h => h) (Or.inl ⟨by kernel_rfl, fun w _ => by go_simp⟩) hHeld ?_
      try simp only [Act.put, List.getElem_toArray, List.getElem_cons_succ, List.getElem_cons_zero, List.setIfInBounds_toArray, List.set_cons_zero, List.set_cons_succ]
      refine wpAnyH_take (i := 14) (v := .pointer (some ⟨ab, ao + k * 6, none⟩)) rfl (by kernel_rfl) (by kernel_rfl) (by kernel_rfl) (fun _ _ _ h => h) (Or.inl ⟨by kernel_rfl, fun w _ => by go_simp⟩) hHeld ?_
      try simp only [Act.put, List.getElem_toArray, List.getElem_cons_succ, List.getElem_cons_zero, List.setIfInBounds_toArray, List.set_cons_zero, List.set_cons_succ]
      refine wpAnyH_take (i := 15) (v := .pointer (some ⟨ab, ao + k * 6 + 3, none⟩)) rfl (by kernel_rfl) (by kernel_rfl) (by kernel_rfl) (fun _ _ _ h => h) (Or.inl ⟨by kernel_rfl, fun w _ => by go_simp⟩) hHeld ?_
      try simp only [Act.put, List.getElem_toArray, List.getElem_cons_succ, List.getElem_cons_zero, List.setIfInBounds_toArray, List.set_cons_zero, List.set_cons_succ]
      refine wpAnyH_take (i := 16) (v := .agg #[.slice o.K o.kn o.kc, .int .i64 o.torn, .int .i64 o.cut]) rfl (by kernel_rfl) (by kernel_rfl) (by kernel_rfl) (fun _ _ _ h => h) (Or.inl ⟨by kernel_rfl, fun w h => by have h3 := h.2.2.2.1; have h4 := h.2.2.2.2.1; have h5 := h.2.2.2.2.2; go_simp⟩) hHeld ?_
      try simp only [Act.put, List.getElem_toArray, List.getElem_cons_succ, List.getElem_cons_zero, List.setIfInBounds_toArray, List.set_cons_zero, List.set_cons_succ]
      refine wpAnyH_ready (rs := [17]) (by kernel_rfl) (by simp) ?_
      refine AllReadyH.cons rfl (fun K hK => ?_) AllReadyH.nil
      go_simp
      go_at_call 23
      refine (carried_any _ HD.out o.what o.at_ HOK.out.lo HOK.out.hi (some ⟨g, 0, none⟩) o.bs.length cg o.bs MD.out.reads (fun a e h => h.2 (by injection e with e; rw [← e])) o.K o.kn o.kc o.keep o.torn o.cut HOK.out.klen (Nat.le_trans HOK.out.kcap HOK.out.kmax) (HOK.out.k.keep BD.out) (HOK.out.kfar.imp id fun h a e h2 => by have := h a e; have h3 : w.heap.size ≤ a.block := h2.1; omega) (by have := HF.out; omega)).mono ?_
      rintro e w5 ⟨rfl, D', C', hboth, hlen, ht⟩
      have H5 := Lib.hid hboth
      have L5 := Lib.hid hlen
      have B5 := Lib.hid (BD.out.trans (ht.below (fun b hb => hb.1) BD.out.size))
      have M5 := Lib.hid (MD.out.turn ht (fun h => h.2 rfl))
      clear hboth hlen ht HD BD MD
      refine hK.out _ _ (HCL.out _ B5.out) (fun hHeld => ?_)
      try simp only [Act.put, List.getElem_toArray, List.getElem_cons_succ, List.getElem_cons_zero, List.setIfInBounds_toArray, List.set_cons_zero, List.set_cons_succ]
      refine wpAnyH_take (i := 18) (v := .bool false) rfl (by kernel_rfl) (by kernel_rfl) (by kernel_rfl) (fun _ _ _ h => h) (Or.inl ⟨by kernel_rfl, fun w _ => by go_simp⟩) hHeld ?_
      try simp only [Act.put, List.getElem_toArray, List.getElem_cons_succ, List.getElem_cons_zero, List.setIfInBounds_toArray, List.set_cons_zero, List.set_cons_succ]
      refine wpAnyH_take (i := 19) (v := .bool false) rfl (by kernel_rfl) (by kernel_rfl) (by kernel_rfl) (fun _ _ _ h => h) (Or.inl ⟨by kernel_rfl, fun w _ => by go_simp⟩) hHeld ?_
      try simp only [Act.put, List.getElem_toArray, List.getElem_cons_succ, List.getElem_cons_zero, List.setIfInBounds_toArray, List.set_cons_zero, List.set_cons_succ]
      refine wpAnyH_take (i := 20) (v := .slice (some ⟨g, 0, none⟩) o.bs.length cg) rfl (by kernel_rfl) (by kernel_rfl) (by kernel_rfl) (fun _ _ _ h => h) (Or.inl ⟨by kernel_rfl, fun w _ => by go_simp⟩) hHeld ?_
      try simp only [Act.put, List.getElem_toArray, List.getElem_cons_succ, List.getElem_cons_zero, List.setIfInBounds_toArray, List.set_cons_zero, List.set_cons_succ]
      refine wpAnyH_take (i := 21) (v := .slice (some ⟨ab, ao, none⟩) l.length c) rfl (by kernel_rfl) (by kernel_rfl) (by kernel_rfl) (fun _ _ _ h => h) (Or.inl ⟨by kernel_rfl, fun w _ => by go_simp⟩) hHeld ?_
      try simp only [Act.put, List.getElem_toArray, List.getElem_cons_succ, List.getElem_cons_zero, List.setIfInBounds_toArray, List.set_cons_zero, List.set_cons_succ]
      refine wpAnyH_take (i := 22) (v := .int .i64 (k : Int)) rfl (by kernel_rfl) (by kernel_rfl) (by kernel_rfl) (fun _ _ _ h => h) (Or.inl ⟨by kernel_rfl, fun w _ => by go_simp⟩) hHeld ?_
      try simp only [Act.put, List.getElem_toArray, List.getElem_cons_succ, List.getElem_cons_zero, List.setIfInBounds_toArray, List.set_cons_zero, List.set_cons_succ]
      refine wpAnyH_take (i := 23) (v := .pointer (some ⟨ab, ao + k * 6, none⟩)) rfl (by kernel_rfl) (by kernel_rfl) (by kernel_rfl) (fun _ _ _ h => h) (Or.inl ⟨by kernel_rfl, fun w _ => by go_simp⟩) hHeld ?_
      try simp only [Act.put, List.getElem_toArray, List.getElem_cons_succ, List.getElem_cons_zero, List.setIfInBounds_toArray, List.set_cons_zero, List.set_cons_succ]
      refine wpAnyH_take (i := 24) (v := .pointer (some ⟨ab, ao + k * 6 + 2, none⟩)) rfl (by kernel_rfl) (by kernel_rfl) (by kernel_rfl) (fun _ _ _ h => h) (Or.inl ⟨by kernel_rfl, fun w _ => by go_simp⟩) hHeld ?_
      try simp only [Act.put, List.getElem_toArray, List.getElem_cons_succ, List.getElem_cons_zero, List.setIfInBounds_toArray, List.set_cons_zero, List.set_cons_succ]
      refine wpAnyH_take (i := 25) (v := .slice o.B o.bn o.bc) rfl (by kernel_rfl) (by kernel_rfl) (by kernel_rfl) (fun _ _ _ h => h) (Or.inl ⟨by kernel_rfl, fun w h => by have hc := h.2.2.1; go_simp⟩) hHeld ?_
      try simp only [Act.put, List.getElem_toArray, List.getElem_cons_succ, List.getElem_cons_zero, List.setIfInBounds_toArray, List.set_cons_zero, List.set_cons_succ]
      refine wpAnyH_ready (rs := [26]) (by kernel_rfl) (by simp) ?_
      refine AllReadyH.cons rfl (fun K hK => ?_) AllReadyH.nil
      go_simp
      go_at_call 24
      refine (equal_any _ _ _ _ _ _ o.bs o.bs _ M5.out.reads (HOK.out.b.keep B5.out)).mono ?_
      rintro e w' ⟨rfl, rfl⟩
      rw [show same8 o.bs o.bs = true from same8_iff.2 rfl]
      refine hK.out _ _ hHeld (fun hHeld => ?_)
      try simp only [Act.put, List.getElem_toArray, List.getElem_cons_succ, List.getElem_cons_zero, List.setIfInBounds_toArray, List.set_cons_zero, List.set_cons_succ]
      refine wpAnyH_take (i := 27) (v := .bool false) rfl (by kernel_rfl) (by kernel_rfl) (by kernel_rfl) (fun _ _ _ h => h) (Or.inl ⟨by kernel_rfl, fun w _ => by go_simp⟩) hHeld ?_
      try simp only [Act.put, List.getElem_toArray, List.getElem_cons_succ, List.getElem_cons_zero, List.setIfInBounds_toArray, List.set_cons_zero, List.set_cons_succ]
      refine wpAnyH_take (i := 28) (v := .bool false) rfl (by kernel_rfl) (by kernel_rfl) (by kernel_rfl) (fun _ _ _ h => h) (Or.inl ⟨by kernel_rfl, fun w _ => by go_simp⟩) hHeld ?_
      try simp only [Act.put, List.getElem_toArray, List.getElem_cons_succ, List.getElem_cons_zero, List.setIfInBounds_toArray, List.set_cons_zero, List.set_cons_succ]
      refine wpAnyH_done (by kernel_rfl) ?_ _
      clear hHeld HCL
      go_wp2_with fail
      go_loopw [89] (fun i wx => ∃ j : Nat, j ≤ o.bs.length ∧ i = .int .i64 (j : Int) ∧ (∃ l8, Mem8 wx g 0 o.bs.length l8) ∧ Turn (fun b => b = g) w5 wx) (fun i _ => o.bs.length - (intOf i).toNat)
      case atStart => exact ⟨0, Nat.zero_le _, rfl, ⟨_, M5.out⟩, Turn.refl _ _⟩
      case round =>
        obtain ⟨j, hj, rfl, ⟨l8, hm⟩, ht⟩ := hrel
        have M6 := Lib.hid hm
        have T6 := Lib.hid ht
        clear hm ht M5
        by_cases hjl : j < o.bs.length
        · have j0 : (0 : Int) ≤ (j : Int) := by omega
          have j1 : (j : Int) < (o.bs.length : Int) := by omega
          have jw : IntKind.i64.wrap ((j : Int) + 1) = (j : Int) + 1 := IntWalk.i64_in _ (by have := HOK.out.b.1; have h1 := HOK.out.bcap; have h2 := HOK.out.bmax; simp only [maxLen] at h2; omega)
          have hll := M6.out.len
          have cj := M6.out.cell j (by omega)
          have fj := M6.out.free j (by omega)
          rw [Nat.zero_add] at cj fj
          obtain ⟨x, hx⟩ : ∃ x, x = l8[j]'(by omega) := ⟨_, rfl⟩
          rw [← hx] at cj
          clear hx hll
          have wy : IntKind.u8.wrap ((x.toNat : Int) + 1) = ((x + 1).toNat : Int) := u8_next x
          go_wp2_with fail
          go_roundw
          case rel => exact ⟨j + 1, by omega, by go_num, ⟨_, mem8_set M6.out j (x + 1) hjl⟩, T6.out.trans (Turn.set (F := fun b => b = g) wr rfl _)⟩
          case measure => simp [intOf]; omega
        · obtain rfl : j = o.bs.length := by omega
          have H7 := Lib.hid ((H5.out.other T6.out (fun b hb e => hb.2 e)).mono (F := fun b => w.heap.size ≤ b) (fun b hb => hb.1))
          have B7 := Lib.hid (B5.out.trans (T6.out.below (B := w.heap.size) (fun b hb => by rw [hb]; exact HG.out) B5.out.size))
          have L7 : Hid (C'.length + D'.waits.length ≤ k + 1) := Lib.hid (by have := L5.out; have := HF.out; omega)
          clear hjl hj
          go_wp2_with fail
          go_roundw
          case rel => exact ⟨k + 1, by omega, by omega, by go_num, ⟨_, _, H7.out, L7.out⟩, B7.out⟩
          case measure => simp [intOf]; omega
    · obtain ⟨cd, v, Ac, cc, Aw, wc, hd, hr, n1, n2, n3⟩ := HH.out
      obtain ⟨r0, _⟩ := hr.head.get 0 _ rfl
      obtain ⟨r1, _⟩ := hr.head.get 1 _ rfl
      obtain ⟨r2, _⟩ := hr.head.get 2 _ rfl
      obtain ⟨r3, _⟩ := hr.head.get 3 _ rfl
      obtain ⟨r4, _⟩ := hr.head.get 4 _ rfl
      have DD := Lib.hid hd
      have RR := Lib.hid hr
      clear hd hr n1 n2 n3
      have ways : (¬ (k : Int) < (l.length : Int)) ∨ ((k : Int) < (l.length : Int) ∧ ¬ (k : Int) < 40) := by omega
      clear hin hk40 hkl
      rcases ways with g2 | ⟨g2, g3⟩
      all_goals
        go_wp2_with fail
        refine (equaldisks_any _ ⟨_, _, DD.out⟩ RR.out).mono ?_
        rintro e w4 ⟨rfl, hb4⟩
        have B4 := Lib.hid (HB.out.trans (hb4.mono HB.out.size))
        clear hb4
        go_wp2_with fail
        refine (awake_any _).mono ?_
        rintro e w5 ⟨rfl, hb5⟩
        have B5 := Lib.hid (B4.out.trans (hb5.mono B4.out.size))
        clear hb5
        go_wp2_with fail
        go_ret
        exact ⟨rfl, B5.out⟩

theorem lawTells (n : Int) (A : Option Addr) (m c : Nat) (l : List OpL) (w : World) (hl : l.length = m) (hc : Cells w A (opcells l)) (ho : ∀ o ∈ l, OpOk w o) (hnc : m ≤ c) (hcm : c ≤ maxLen) :
    Calls Try.prog 5 #[.int .i64 n, .slice A m c] w fun e w' => e = .returned (.bool true) ∧ Below w.heap.size w w' := by
  by_cases h : n < 16 ∨ 40 < n
  · exact tells_out n A m c w h
  · obtain ⟨k, rfl⟩ : ∃ k : Nat, n = (k : Int) := ⟨n.toNat, by omega⟩
    exact tells_in k A m c l w (by omega) (by omega) hl hc ho (Nat.le_trans hnc hcm)

end Go.Proofs.Ytdnhlpddnbholaa
