/-
  DiskCopy: the walk.
-/
import Derived.Test.YtdnhlpddnbholaaDkR
namespace Go.Proofs.Ytdnhlpddnbholaa
open Go.RowKit
set_option linter.unusedVariables false
set_option linter.unusedSimpArgs false
attribute [local go_sem ↓] Go.wp_at_zero Go.wp_at_succ

theorem putcells_take : ∀ (l : List (UInt8 × UInt8)) (m : Nat), putcells (l.take m) = (putcells l).take (m * 2)
  | [], m => by simp [putcells]
  | x :: l, 0 => by simp [putcells]
  | x :: l, m + 1 => by
    have ih := putcells_take l m
    have e : putcells (x :: l) = .int .u8 (x.1.toNat : Int) :: .int .u8 (x.2.toNat : Int) :: putcells l := rfl
    have e2 : putcells (x :: l.take m) = .int .u8 (x.1.toNat : Int) :: .int .u8 (x.2.toNat : Int) :: putcells (l.take m) := rfl
    rw [List.take_succ_cons, e, e2, ih, show (m + 1) * 2 = m * 2 + 1 + 1 by omega, List.take_succ_cons, List.take_succ_cons]
theorem Cells.take {w : World} {A : Option Addr} {xs : List Value} (h : Cells w A xs) (k : Nat) : Cells w A (xs.take k) := fun h0 => by
  obtain ⟨b, o, e, hc⟩ := h (by rw [List.length_take] at h0; omega)
  refine ⟨b, o, e, hc.lt, fun j hj => ?_⟩
  rw [hc.cell j (by rw [List.length_take] at hj; omega), List.getElem_take]
theorem cells_firsts {w : World} {A : Option Addr} {l : List (UInt8 × UInt8)} (h : Cells w A (putcells l)) (m : Nat) : Cells w A (putcells (l.take m)) := by
  rw [putcells_take]
  exact h.take _
/-- The slice of a page at g. -/
def sl (g : Nat) : Value := .slice (some ⟨g, 0, none⟩) 128 128
theorem row_set (gs : List Nat) (g : Nat) (h : gs.length < 16) : ((gs.map sl) ++ List.replicate (16 - gs.length) (Value.slice none 0 0)).set gs.length (sl g) = ((gs ++ [g]).map sl) ++ List.replicate (16 - (gs ++ [g]).length) (Value.slice none 0 0) := by
  rw [List.set_append_right _ _ (by simp), List.length_map, Nat.sub_self, show 16 - gs.length = (16 - (gs ++ [g]).length) + 1 by simp; omega, List.replicate_succ, List.set_cons_zero]
  simp
theorem row_at (gs : List Nat) (h : gs.length < 16) : ((gs.map sl) ++ List.replicate (16 - gs.length) (Value.slice none 0 0))[gs.length]? = some (.slice none 0 0) := by
  rw [List.getElem?_append_right (by simp), List.length_map, Nat.sub_self, List.getElem?_replicate, if_pos (by omega)]
theorem row_full (gs : List Nat) (h : gs.length = 16) (k : Nat) (hk : k < 16) : ((gs.map sl) ++ List.replicate (16 - gs.length) (Value.slice none 0 0))[k]? = some (sl (gs.getD k 0)) := by
  rw [List.getElem?_append_left (by rw [List.length_map]; omega), List.getElem?_map, List.getElem?_eq_getElem (by omega), List.getD_eq_getElem?_getD, List.getElem?_eq_getElem (by omega)]
  rfl
theorem getD_snoc (gs : List Nat) (g j : Nat) : (gs ++ [g]).getD j 0 = if j < gs.length then gs.getD j 0 else if j = gs.length then g else 0 := by
  rw [List.getD_eq_getElem?_getD]
  split
  · rw [List.getElem?_append_left (by assumption), List.getD_eq_getElem?_getD]
  · split
    · rename_i h
      subst h
      simp
    · rw [List.getElem?_eq_none (by rw [List.length_append, List.length_singleton]; omega)]
      rfl
theorem getD_ge (gs : List Nat) (N j : Nat) (h : ∀ g ∈ gs, N ≤ g) (hj : j < gs.length) : N ≤ gs.getD j 0 := by
  rw [List.getD_eq_getElem?_getD, List.getElem?_eq_getElem hj]
  exact h _ (List.getElem_mem _)
theorem Live.flush' {D : Dk} {k : Nat} (h : Live D k) (j : Nat) : Live (flushed D) j := by
  have hf := h.flush
  refine ⟨hf.ok, hf.n, hf.left, hf.up, ?_⟩
  rw [flushed_live h]
  exact Nat.zero_le _

set_option maxRecDepth 100000 in
set_option maxHeartbeats 8000000 in
theorem copy_in (A1 A2 : Option Addr) (n1 c1 n2 c2 : Nat) (l1 l2 : List (UInt8 × UInt8)) (w : World) (m1 m2 : Nat) (hl1 : l1.length = n1) (hl2 : l2.length = n2) (hc1 : Cells w A1 (putcells l1)) (hc2 : Cells w A2 (putcells l2)) (hn1 : n1 ≤ c1) (hm1 : c1 ≤ maxLen) (hn2 : n2 ≤ c2) (hm2 : c2 ≤ maxLen) (e1 : m1 = min n1 20) (e2 : m2 = min n2 20) :
    Calls Try.prog 7 #[.slice A1 n1 c1, .slice A2 n2 c2] w fun e w' => e = .returned (.bool true) ∧ Below w.heap.size w w' := by
  have t1 : min (n1 : Int) 20 = (m1 : Int) := by omega
  have t2 : min (n2 : Int) 20 = (m2 : Int) := by omega
  have HMN : Hid (m1 ≤ n1 ∧ m2 ≤ n2) := Lib.hid (by omega)
  have hm20 : m1 ≤ 20 ∧ m2 ≤ 20 := by omega
  have i1 : (m1 : Int) ≤ (c1 : Int) := by omega
  have i2 : (m2 : Int) ≤ (c2 : Int) := by omega
  unfold maxLen at hm1 hm2
  have HC1 := Lib.hid hc1
  have HC2 := Lib.hid hc2
  have HL1 := Lib.hid hl1
  have HL2 := Lib.hid hl2
  clear hc1 hc2 hl1 hl2 e1 e2
  go_enter Try.func7, Try.ntmps7
  go_upto_region 1 with fail
  have bd : Below w.heap.size w w.drew := (Below.refl w.heap.size w).drew
  have C1 := Lib.hid (HC1.out.keep bd)
  have B1 := Lib.hid bd
  obtain ⟨w1, hw1⟩ : ∃ W : World, W = w.drew := ⟨_, rfl⟩
  rw [← hw1] at C1 B1
  refine wp_region_held_drew (S := fun _ => True) (by kernel_rfl) trivial (fun hHeld => ?_)
  rw [← hw1]
  clear hw1 bd HC1
  refine wpAnyH_take (i := 0) (v := .slice A1 n1 c1) rfl (by kernel_rfl) (by kernel_rfl) (by kernel_rfl) (fun _ _ _ h => h) (Or.inl ⟨by kernel_rfl, fun w _ => by go_simp⟩) hHeld ?_
  try simp only [Act.put, List.getElem_toArray, List.getElem_cons_succ, List.getElem_cons_zero, List.setIfInBounds_toArray, List.set_cons_zero, List.set_cons_succ]
  refine wpAnyH_take (i := 1) (v := .slice A1 n1 c1) rfl (by kernel_rfl) (by kernel_rfl) (by kernel_rfl) (fun _ _ _ h => h) (Or.inl ⟨by kernel_rfl, fun w _ => by go_simp⟩) hHeld ?_
  try simp only [Act.put, List.getElem_toArray, List.getElem_cons_succ, List.getElem_cons_zero, List.setIfInBounds_toArray, List.set_cons_zero, List.set_cons_succ]
  refine wpAnyH_take (i := 2) (v := .int .i64 (n1 : Int)) rfl (by kernel_rfl) (by kernel_rfl) (by kernel_rfl) (fun _ _ _ h => h) (Or.inl ⟨by kernel_rfl, fun w _ => by go_simp⟩) hHeld ?_
  try simp only [Act.put, List.getElem_toArray, List.getElem_cons_succ, List.getElem_cons_zero, List.setIfInBounds_toArray, List.set_cons_zero, List.set_cons_succ]
  refine wpAnyH_take (i := 3) (v := .int .i64 (m1 : Int)) rfl (by kernel_rfl) (by kernel_rfl) (by kernel_rfl) (fun _ _ _ h => h) (Or.inl ⟨by kernel_rfl, fun w _ => by go_simp⟩) hHeld ?_
  try simp only [Act.put, List.getElem_toArray, List.getElem_cons_succ, List.getElem_cons_zero, List.setIfInBounds_toArray, List.set_cons_zero, List.set_cons_succ]
  refine wpAnyH_take (i := 4) (v := .slice A1 m1 c1) rfl (by kernel_rfl) (by kernel_rfl) (by kernel_rfl) (fun _ _ _ h => h) (Or.inl ⟨by kernel_rfl, fun w _ => by go_simp⟩) hHeld ?_
  try simp only [Act.put, List.getElem_toArray, List.getElem_cons_succ, List.getElem_cons_zero, List.setIfInBounds_toArray, List.set_cons_zero, List.set_cons_succ]
  refine wpAnyH_take (i := 5) (v := .slice A2 n2 c2) rfl (by kernel_rfl) (by kernel_rfl) (by kernel_rfl) (fun _ _ _ h => h) (Or.inl ⟨by kernel_rfl, fun w _ => by go_simp⟩) hHeld ?_
  try simp only [Act.put, List.getElem_toArray, List.getElem_cons_succ, List.getElem_cons_zero, List.setIfInBounds_toArray, List.set_cons_zero, List.set_cons_succ]
  refine wpAnyH_take (i := 6) (v := .slice A2 n2 c2) rfl (by kernel_rfl) (by kernel_rfl) (by kernel_rfl) (fun _ _ _ h => h) (Or.inl ⟨by kernel_rfl, fun w _ => by go_simp⟩) hHeld ?_
  try simp only [Act.put, List.getElem_toArray, List.getElem_cons_succ, List.getElem_cons_zero, List.setIfInBounds_toArray, List.set_cons_zero, List.set_cons_succ]
  refine wpAnyH_take (i := 7) (v := .int .i64 (n2 : Int)) rfl (by kernel_rfl) (by kernel_rfl) (by kernel_rfl) (fun _ _ _ h => h) (Or.inl ⟨by kernel_rfl, fun w _ => by go_simp⟩) hHeld ?_
  try simp only [Act.put, List.getElem_toArray, List.getElem_cons_succ, List.getElem_cons_zero, List.setIfInBounds_toArray, List.set_cons_zero, List.set_cons_succ]
  refine wpAnyH_take (i := 8) (v := .int .i64 (m2 : Int)) rfl (by kernel_rfl) (by kernel_rfl) (by kernel_rfl) (fun _ _ _ h => h) (Or.inl ⟨by kernel_rfl, fun w _ => by go_simp⟩) hHeld ?_
  try simp only [Act.put, List.getElem_toArray, List.getElem_cons_succ, List.getElem_cons_zero, List.setIfInBounds_toArray, List.set_cons_zero, List.set_cons_succ]
  refine wpAnyH_take (i := 9) (v := .slice A2 m2 c2) rfl (by kernel_rfl) (by kernel_rfl) (by kernel_rfl) (fun _ _ _ h => h) (Or.inl ⟨by kernel_rfl, fun w _ => by go_simp⟩) hHeld ?_
  try simp only [Act.put, List.getElem_toArray, List.getElem_cons_succ, List.getElem_cons_zero, List.setIfInBounds_toArray, List.set_cons_zero, List.set_cons_succ]
  refine wpAnyH_take (i := 10) (v := .slice A1 m1 c1) rfl (by kernel_rfl) (by kernel_rfl) (by kernel_rfl) (fun _ _ _ h => h) (Or.inl ⟨by kernel_rfl, fun w _ => by go_simp⟩) hHeld ?_
  try simp only [Act.put, List.getElem_toArray, List.getElem_cons_succ, List.getElem_cons_zero, List.setIfInBounds_toArray, List.set_cons_zero, List.set_cons_succ]
  refine wpAnyH_take (i := 11) (v := .slice A2 m2 c2) rfl (by kernel_rfl) (by kernel_rfl) (by kernel_rfl) (fun _ _ _ h => h) (Or.inl ⟨by kernel_rfl, fun w _ => by go_simp⟩) hHeld ?_
  try simp only [Act.put, List.getElem_toArray, List.getElem_cons_succ, List.getElem_cons_zero, List.setIfInBounds_toArray, List.set_cons_zero, List.set_cons_succ]
  refine wpAnyH_done (by kernel_rfl) ?_ _
  clear hHeld t1 t2
  go_wp2_with fail
  refine (after_any A1 m1 c1 (l1.take m1) ((m1 : Int) / 2) _ (by rw [List.length_take, HL1.out]; have := HMN.out; omega) (cells_firsts C1.out m1) (by omega)).mono ?_
  rintro e w2 ⟨p, q, rfl, hp, hq, hd, hb⟩
  have HLV := Lib.hid (afterK_live (l1.take m1) ((m1 : Int) / 2) m1 (by omega))
  generalize afterK (l1.take m1) ((m1 : Int) / 2) m1 = E at *
  obtain ⟨cd, vd, hd⟩ := hd
  have hb1 := B1.out
  have D2 := Lib.hid hd
  have B2 := Lib.hid (hb1.trans (hb.mono hb1.size))
  have LD : Hid (p < w2.heap.size ∧ q < w2.heap.size ∧ ∀ g, vd.ownBlock = some g → g < w2.heap.size) := Lib.hid ⟨hd.lt.1, hd.lt.2, fun g hg => (hd.waits.lt g hg).2⟩
  have HW2 : Hid (w.heap.size ≤ w2.heap.size) := Lib.hid B2.out.size
  clear hd hb hb1 hp hq B1 C1
  go_wp2_with fail
  refine (copy_any _ D2.out (fun b => w2.heap.size ≤ b) (fun b h => h)).mono ?_
  rintro e w3 ⟨p2, q2, rfl, hp2, hq2, hc, hb⟩
  obtain ⟨cc, vc, hc⟩ := hc
  have D3 := Lib.hid (D2.out.keep hb)
  have K3 := Lib.hid hc
  have B3 := Lib.hid (B2.out.trans (hb.mono B2.out.size))
  have LC : Hid (w2.heap.size ≤ p2 ∧ w2.heap.size ≤ q2 ∧ (∀ g, vc.ownBlock = some g → w2.heap.size ≤ g) ∧ p2 < w3.heap.size ∧ q2 < w3.heap.size ∧ ∀ g, vc.ownBlock = some g → g < w3.heap.size) := Lib.hid ⟨hp2, hq2, fun g hg => hc.fv g hg, hc.lt.1, hc.lt.2, fun g hg => (hc.waits.lt g hg).2⟩
  have HW3 : Hid (w2.heap.size ≤ w3.heap.size) := Lib.hid hb.size
  clear hc hb hp2 hq2 D2 B2
  go_upto_region 7 with fail
  obtain ⟨w4, hw4⟩ : ∃ W : World, W = w3.alloc (.cells #[.slice none 0 0, .slice none 0 0, .slice none 0 0, .slice none 0 0, .slice none 0 0, .slice none 0 0, .slice none 0 0, .slice none 0 0, .slice none 0 0, .slice none 0 0, .slice none 0 0, .slice none 0 0, .slice none 0 0, .slice none 0 0, .slice none 0 0, .slice none 0 0] 66) := ⟨_, rfl⟩
  have hb : Below w3.heap.size w3 w4 := by rw [hw4]; exact (Below.refl _ w3).alloc (Nat.le_refl _) _
  have hm : MemC w4 w3.heap.size 0 (List.replicate 16 (.slice none 0 0)) := by rw [hw4]; exact MemC.new w3 (List.replicate 16 (.slice none 0 0)) _
  have hs4 : w4.heap.size = w3.heap.size + 1 := by rw [hw4]; simp
  rw [← hw4]
  have D4 := Lib.hid (D3.out.keep hb)
  have K4 := Lib.hid (K3.out.keep hb)
  have B4 := Lib.hid (B3.out.trans (hb.mono B3.out.size))
  have M4 := Lib.hid hm
  obtain ⟨N2, hN2⟩ : ∃ N, N = w2.heap.size := ⟨_, rfl⟩
  rw [← hN2] at LD LC HW2 HW3
  obtain ⟨q7, hq7⟩ : ∃ y, y = w3.heap.size := ⟨_, rfl⟩
  rw [← hq7] at M4 LC HW3 hs4 ⊢
  have HS4 := Lib.hid hs4
  clear hb hm hw4 hs4 hq7 D3 K3 B3
  go_wp2_with fail
  go_loopw [38] (fun i wr => ∃ k : Nat, k ≤ 16 ∧ i = .int .i64 (k : Int) ∧ ∃ gs : List Nat, gs.length = k ∧ (∀ g ∈ gs, w4.heap.size ≤ g) ∧ MemC wr q7 0 (gs.map sl ++ List.replicate (16 - gs.length) (.slice none 0 0)) ∧ (∀ j, j < gs.length → Mem8 wr (gs.getD j 0) 0 128 (readB E j)) ∧ Turn (fun b => b = q7) w4 wr) (fun i _ => 16 - (intOf i).toNat)
  case atStart => exact ⟨0, Nat.zero_le _, rfl, [], rfl, by simp, M4.out, fun j hj => absurd hj (by simp), Turn.refl _ _⟩
  case round =>
    obtain ⟨k, hk, rfl, gs, hlen, hge, hm, hpg, ht⟩ := hrel
    have h4 := HS4.out
    have ld := LD.out
    have lc := LC.out
    have hw3 := HW3.out
    have D5 := Lib.hid (D4.out.turn ht (by omega) (by omega) (fun g hg => by have := ld.2.2 g hg; omega))
    have K5 := Lib.hid (K4.out.turn ht (by omega) (by omega) (fun g hg => by have := lc.2.2.2.2.2 g hg; omega))
    have M5 := Lib.hid hm
    have P5 := Lib.hid hpg
    have T5 := Lib.hid ht
    have GE := Lib.hid hge
    have GL := Lib.hid hlen
    have B5 := Lib.hid (B4.out.trans (ht.below (fun b hb => by have := HW2.out; omega) B4.out.size))
    clear hm hpg ht hge D4 K4 M4 h4 ld lc hw3
    by_cases hlt : k < 16
    · have k0 : (0 : Int) ≤ (k : Int) := by omega
      have k1 : (k : Int) < 16 := by omega
      have kw : IntKind.i64.wrap ((k : Int) + 1) = (k : Int) + 1 := IntWalk.i64_in _ (by omega)
      have HKN : Hid (k < E.blks.length) := Lib.hid (by rw [HLV.out.n]; exact hlt)
      clear hlen
      go_wp2_with fail
      refine (read_yes _ ⟨_, _, D5.out⟩ k HLV.out.up HKN.out).mono ?_
      rintro e w5 ⟨g1, rfl, hg1, hm1, hb⟩
      have K6 := Lib.hid (K5.out.keep hb)
      have M6 := Lib.hid (M5.out.keep hb)
      have P6 := Lib.hid (fun j hj => (P5.out j hj).keep hb : ∀ j, j < gs.length → Mem8 w5 (gs.getD j 0) 0 128 (readB E j))
      have G6 := Lib.hid hm1
      have T6 := Lib.hid (T5.out.trans (Turn.of_below hb))
      have HG1 : Hid (w4.heap.size ≤ g1) := Lib.hid (Nat.le_trans T5.out.size hg1)
      clear hb hm1 hg1 D5 K5 M5 P5 T5 B5
      go_wp2_with fail
      refine (read_yes _ ⟨_, _, K6.out⟩ k HLV.out.up HKN.out).mono ?_
      rintro e w6 ⟨g2, rfl, hg2, hm2', hb⟩
      have M7 := Lib.hid (M6.out.keep hb)
      have P7 := Lib.hid (fun j hj => (P6.out j hj).keep hb : ∀ j, j < gs.length → Mem8 w6 (gs.getD j 0) 0 128 (readB E j))
      have G7 := Lib.hid (G6.out.keep hb)
      have H7 := Lib.hid hm2'.reads
      have T7 := Lib.hid (T6.out.trans (Turn.of_below hb))
      clear hb hm2' hg2 K6 M6 P6 G6 T6
      go_wp2_with fail
      refine (equal_any _ _ 128 128 128 128 _ _ _ G7.out.reads H7.out).mono ?_
      rintro e w' ⟨rfl, rfl⟩
      rw [show same8 (readB E k) (readB E k) = true from same8_iff.2 rfl]
      obtain ⟨cq, fq⟩ := M7.out.get k _ (by rw [← GL.out]; exact row_at gs (by rw [GL.out]; exact hlt))
      go_wp2_with fail
      go_roundw
      case rel =>
        have h4 := HS4.out
        refine ⟨k + 1, by omega, by go_num, gs ++ [g1], by simp [GL.out], fun g hg => ?_, ?_, fun j hj => ?_, T7.out.trans (Turn.set (F := fun b => b = q7) w6 rfl _)⟩
        · rcases List.mem_append.1 hg with h | h
          · exact GE.out g h
          · rw [List.mem_singleton.1 h]; exact HG1.out
        · have hm := M7.out.setAt k (by simp; have := GL.out; omega) (sl g1)
          rw [← row_set gs g1 (by rw [GL.out]; exact hlt), GL.out]
          rw [GL.out] at hm
          exact hm
        · rw [getD_snoc]
          have hts := Turn.set (F := fun b => b = q7) w6 (i := k) rfl (sl g1)
          split
          · rename_i hj2
            exact (P7.out j hj2).turn hts (by have := getD_ge gs _ j GE.out hj2; omega)
          · rw [List.length_append, List.length_singleton] at hj
            rw [if_pos (by omega), show j = k by have := GL.out; omega]
            exact G7.out.turn hts (by have := HG1.out; omega)
      case measure => simp [intOf]; omega
    · obtain rfl : k = 16 := by omega
      rw [show ((16 : Nat) : Int) = 16 from rfl]
      clear hlt hk
      go_wp2_with fail
      refine (cached_any _ ⟨_, _, D5.out⟩).mono ?_
      rintro e w9 ⟨v, rfl, hown, hb⟩
      have hvb : ∀ g, v.ownBlock = some g → wr.heap.size ≤ g ∧ g < w9.heap.size := fun g hg => ⟨own_base hown g hg, (hown.lt g hg).2⟩
      obtain ⟨A9, c9, rfl, hrI, hnc9, hcm9⟩ := own_readsI hown
      have h4 := HS4.out
      have ld := LD.out
      have lc := LC.out
      have hw2 := HW2.out
      have hw3 := HW3.out
      have htz := T5.out.size
      have hbz := hb.size
      have D9 := Lib.hid (D5.out.keep hb)
      have K9 := K5.out.keep hb
      have M9 := Lib.hid (M5.out.keep hb)
      have P9 := Lib.hid (fun j hj => (P5.out j hj).keep hb : ∀ j, j < gs.length → Mem8 w9 (gs.getD j 0) 0 128 (readB E j))
      have B9 := Lib.hid (B5.out.trans (hb.mono B5.out.size))
      have RI := Lib.hid hrI
      have HOWN := Lib.hid hown
      have HVB := Lib.hid hvb
      obtain ⟨TT, hTT⟩ : ∃ TT : Nat → Prop, TT = Tight w9 p2 q2 vc := ⟨_, rfl⟩
      have hK9 := K9.tight
      rw [← hTT] at hK9
      have K0 := Lib.hid hK9
      have HFW : Hid (∀ k, TT k → w.heap.size ≤ k) := Lib.hid (by
        rw [hTT]
        rintro k (h | h | h | h)
        · omega
        · omega
        · have := lc.2.2.1 k h; omega
        · have := B9.out.size; omega)
      have NTp : Hid (¬ TT p) := Lib.hid (by
        rw [hTT]
        rintro (h | h | h | h)
        · omega
        · omega
        · have := lc.2.2.1 _ h; omega
        · omega)
      have NTq : Hid (¬ TT q) := Lib.hid (by
        rw [hTT]
        rintro (h | h | h | h)
        · omega
        · omega
        · have := lc.2.2.1 _ h; omega
        · omega)
      have NTv : Hid (∀ g, vd.ownBlock = some g → ¬ TT g) := Lib.hid (by
        rw [hTT]
        rintro g hg (h | h | h | h)
        · have := ld.2.2 g hg; omega
        · have := ld.2.2 g hg; omega
        · have := lc.2.2.1 _ h; have := ld.2.2 g hg; omega
        · have := ld.2.2 g hg; omega)
      have NT7 : Hid (¬ TT q7) := Lib.hid (by
        rw [hTT]
        rintro (h | h | h | h)
        · omega
        · omega
        · have := lc.2.2.2.2.2 _ h; omega
        · omega)
      have NTg : Hid (∀ g, q7 < g → g < w9.heap.size → ¬ TT g) := Lib.hid (by
        rw [hTT]
        rintro g hg1 hg2 (h | h | h | h)
        · omega
        · omega
        · have := lc.2.2.2.2.2 _ h; omega
        · omega)
      have HQ7 : Hid (q7 < wr.heap.size) := Lib.hid (by omega)
      have HLC : Hid (Live E 20) := Lib.hid ⟨HLV.out.ok, HLV.out.n, HLV.out.left, HLV.out.up, Nat.le_trans HLV.out.few hm20.1⟩
      clear hown hb hrI hvb hTT hK9 K9 h4 ld lc hw2 hw3 htz hbz D5 K5 M5 P5 B5 LC LD HW3 HW2
      go_wp2_with fail
      go_loopw [73] (fun i wx => ∃ k : Nat, k ≤ m2 ∧ i = .int .i64 (k : Int) ∧ (∃ E', Live E' 20 ∧ DiskAt TT wx p2 q2 E') ∧ Turn TT w9 wx ∧ Below w.heap.size w wx) (fun i _ => m2 - (intOf i).toNat)
      case atStart => exact ⟨0, Nat.zero_le _, rfl, ⟨E, HLC.out, K0.out⟩, Turn.refl _ _, B9.out⟩
      case round =>
        obtain ⟨k, hk, rfl, ⟨E', hL', hK'⟩, hT, hb⟩ := hrel
        have HLX := Lib.hid hL'
        have KX := Lib.hid hK'
        have TX := Lib.hid hT
        have BX := Lib.hid hb
        clear hL' hK' hT hb K0 HLC
        by_cases hlt : k < m2
        · have k0 : (0 : Int) ≤ (k : Int) := by omega
          have k1 : (k : Int) < (m2 : Int) := by omega
          have kw : IntKind.i64.wrap ((k : Int) + 1) = (k : Int) + 1 := IntWalk.i64_in _ (by omega)
          have hkl : k < l2.length := by have := HL2.out; have := HMN.out; omega
          have CX := Lib.hid (HC2.out.keep BX.out)
          obtain ⟨cx, vv, hin⟩ := KX.out
          have VX : Hid (p2 < wr.heap.size ∧ q2 < wr.heap.size ∧ ∀ g, vv.ownBlock = some g → g < wr.heap.size) := Lib.hid ⟨hin.lt.1, hin.lt.2, fun g hg => (hin.waits.lt g hg).2⟩
          have DX := Lib.hid hin
          clear hin KX
          obtain ⟨ab, ao, rfl, hcl⟩ := CX.out (by rw [putcells_length]; omega)
          have hp0 := hcl.cell (k * 2) (by rw [putcells_length]; omega)
          have hp1 := hcl.cell (k * 2 + 1) (by rw [putcells_length]; omega)
          obtain ⟨g0, g1⟩ := putcells_get l2 k (by omega)
          have hx0 : (putcells l2)[k * 2]'(by rw [putcells_length]; omega) = .int .u8 (l2[k].1.toNat : Int) := (List.getElem?_eq_some_iff.1 g0).2
          have hx1 : (putcells l2)[k * 2 + 1]'(by rw [putcells_length]; omega) = .int .u8 (l2[k].2.toNat : Int) := (List.getElem?_eq_some_iff.1 g1).2
          rw [hx0] at hp0
          rw [hx1, ← Nat.add_assoc] at hp1
          obtain ⟨x, hx⟩ : ∃ x, x = l2[k]'(by omega) := ⟨_, rfl⟩
          rw [← hx] at hp0 hp1
          have HX := Lib.hid hx
          clear hx hx0 hx1 g0 g1 hcl
          clear HX
          go_upto_region 20 with fail
          obtain ⟨wy, hwy⟩ : ∃ W : World, W = wr.alloc (.cells #[.int .u8 (x.1.toNat : Int), .int .u8 (x.2.toNat : Int)] 36) := ⟨_, rfl⟩
          have hb : Below wr.heap.size wr wy := by rw [hwy]; exact (Below.refl _ wr).alloc (Nat.le_refl _) _
          have hx2 : MemC wy wr.heap.size 0 [.int .u8 (x.1.toNat : Int), .int .u8 (x.2.toNat : Int)] := by rw [hwy]; exact MemC.new wr [.int .u8 (x.1.toNat : Int), .int .u8 (x.2.toNat : Int)] _
          rw [← hwy]
          have DY := Lib.hid (DX.out.keep hb)
          have BY := Lib.hid (BX.out.trans (hb.mono BX.out.size))
          have TY := Lib.hid (TX.out.trans (Turn.of_below hb))
          have X := Lib.hid hx2
          have HV := VX
          obtain ⟨q8, hq8⟩ : ∃ y, y = wr.heap.size := ⟨_, rfl⟩
          rw [← hq8] at X HV ⊢
          clear hb hx2 hwy hq8 DX BX TX VX CX hp0 hp1
          go_upto_region 20 with fail
          have bd : Below wy.heap.size wy wy.drew := (Below.refl wy.heap.size wy).drew
          have DD := Lib.hid (DY.out.keep bd)
          have XD := Lib.hid (X.out.keep bd)
          have BD := Lib.hid (BY.out.trans (bd.mono BY.out.size))
          have TD := Lib.hid (TY.out.trans (Turn.of_below bd))
          obtain ⟨wd, hwd⟩ : ∃ W : World, W = wy.drew := ⟨_, rfl⟩
          rw [← hwd] at DD XD BD TD
          have tx : (x.1.toNat : Int).tmod 16 = ((x.1.toNat % 16 : Nat) : Int) := by rw [Int.tmod_eq_emod_of_nonneg (by omega)]; rfl
          have wx : IntKind.i64.wrap ((x.1.toNat % 16 : Nat) : Int) = ((x.1.toNat % 16 : Nat) : Int) := IntWalk.i64_in _ (by omega)
          have wx2 : IntKind.i64.wrap ((x.1.toNat : Int) % 16) = (x.1.toNat : Int) % 16 := IntWalk.i64_in _ (by omega)
          have wu : IntKind.u8.wrap ((x.1.toNat % 16 : Nat) : Int) = ((x.1.toNat % 16 : Nat) : Int) := IntWalk.u8_in _ (by omega)
          have hS : wd.cell? ⟨q8, 0, none⟩ = some (.int .u8 (x.1.toNat : Int)) ∧ wd.cell? ⟨q8, 1, none⟩ = some (.int .u8 (x.2.toNat : Int)) := ⟨(XD.out.get 0 _ rfl).1, (XD.out.get 1 _ rfl).1⟩
          refine wp_region_held_drew (S := fun w' => w'.cell? ⟨q8, 0, none⟩ = some (.int .u8 (x.1.toNat : Int)) ∧ w'.cell? ⟨q8, 1, none⟩ = some (.int .u8 (x.2.toNat : Int))) (by kernel_rfl) (by rw [← hwd]; exact hS) (fun hHeld => ?_)
          rw [← hwd] at hHeld ⊢
          clear hwd bd hS DY BY X TY
          refine wpAnyH_take (i := 0) (v := .pointer (some ⟨p2, 0, none⟩)) rfl (by kernel_rfl) (by kernel_rfl) (by kernel_rfl) (fun _ _ _ h => h) (Or.inl ⟨by kernel_rfl, fun w _ => by go_simp⟩) hHeld ?_
          try simp only [Act.put, List.getElem_toArray, List.getElem_cons_succ, List.getElem_cons_zero, List.setIfInBounds_toArray, List.set_cons_zero, List.set_cons_succ]
          refine wpAnyH_take (i := 1) (v := .pointer (some ⟨q8, 0, none⟩)) rfl (by kernel_rfl) (by kernel_rfl) (by kernel_rfl) (fun _ _ _ h => h) (Or.inl ⟨by kernel_rfl, fun w _ => by go_simp⟩) hHeld ?_
          try simp only [Act.put, List.getElem_toArray, List.getElem_cons_succ, List.getElem_cons_zero, List.setIfInBounds_toArray, List.set_cons_zero, List.set_cons_succ]
          refine wpAnyH_take (i := 2) (v := .int .u8 (x.1.toNat : Int)) rfl (by kernel_rfl) (by kernel_rfl) (by kernel_rfl) (fun _ _ _ h => h) (Or.inl ⟨by kernel_rfl, fun w h => by have hc := h.1; go_simp⟩) hHeld ?_
          try simp only [Act.put, List.getElem_toArray, List.getElem_cons_succ, List.getElem_cons_zero, List.setIfInBounds_toArray, List.set_cons_zero, List.set_cons_succ]
          refine wpAnyH_take (i := 3) (v := .int .u8 ((x.1.toNat % 16 : Nat) : Int)) rfl (by kernel_rfl) (by kernel_rfl) (by kernel_rfl) (fun _ _ _ h => h) (Or.inl ⟨by kernel_rfl, fun w _ => by go_simp⟩) hHeld ?_
          try simp only [Act.put, List.getElem_toArray, List.getElem_cons_succ, List.getElem_cons_zero, List.setIfInBounds_toArray, List.set_cons_zero, List.set_cons_succ]
          refine wpAnyH_take (i := 4) (v := .int .i64 ((x.1.toNat % 16 : Nat) : Int)) rfl (by kernel_rfl) (by kernel_rfl) (by kernel_rfl) (fun _ _ _ h => h) (Or.inl ⟨by kernel_rfl, fun w _ => by go_simp⟩) hHeld ?_
          try simp only [Act.put, List.getElem_toArray, List.getElem_cons_succ, List.getElem_cons_zero, List.setIfInBounds_toArray, List.set_cons_zero, List.set_cons_succ]
          refine wpAnyH_take (i := 5) (v := .pointer (some ⟨q8, 1, none⟩)) rfl (by kernel_rfl) (by kernel_rfl) (by kernel_rfl) (fun _ _ _ h => h) (Or.inl ⟨by kernel_rfl, fun w _ => by go_simp⟩) hHeld ?_
          try simp only [Act.put, List.getElem_toArray, List.getElem_cons_succ, List.getElem_cons_zero, List.setIfInBounds_toArray, List.set_cons_zero, List.set_cons_succ]
          refine wpAnyH_take (i := 6) (v := .int .u8 (x.2.toNat : Int)) rfl (by kernel_rfl) (by kernel_rfl) (by kernel_rfl) (fun _ _ _ h => h) (Or.inl ⟨by kernel_rfl, fun w h => by have hc := h.2; go_simp⟩) hHeld ?_
          try simp only [Act.put, List.getElem_toArray, List.getElem_cons_succ, List.getElem_cons_zero, List.setIfInBounds_toArray, List.set_cons_zero, List.set_cons_succ]
          refine wpAnyH_ready (rs := [7]) (by kernel_rfl) (by simp) ?_
          refine AllReadyH.cons rfl (fun K hK => ?_) AllReadyH.nil
          go_simp
          go_at_call 19
          refine (filled_any x.2 _).mono ?_
          rintro e we ⟨gf, rfl, hgf, hmf, hbf⟩
          have hin := DD.out.keep hbf
          have XE := XD.out.keep hbf
          have BE := Lib.hid (BD.out.trans (hbf.mono BD.out.size))
          have TE := Lib.hid (TD.out.trans (Turn.of_below hbf))
          refine hK.out _ _ ⟨(XE.get 0 _ rfl).1, (XE.get 1 _ rfl).1⟩ (fun hHeld => ?_)
          try simp only [Act.put, List.getElem_toArray, List.getElem_cons_succ, List.getElem_cons_zero, List.setIfInBounds_toArray, List.set_cons_zero, List.set_cons_succ]
          have hpl := DD.out.lt.1
          have hnt : ¬ Tight we p2 q2 vv q8 := fun h => by
            have hv := HV.out
            have hxl := XE.at_.lt
            rcases h with h | h | h | h
            · omega
            · omega
            · have := hv.2.2 _ h; omega
            · omega
          refine wpAnyH_ready (rs := [8]) (by kernel_rfl) (by simp) ?_
          refine AllReadyH.cons rfl (fun K hK => ?_) AllReadyH.nil
          go_simp
          go_at_call 18
          refine (write_any _ hin.tight ((x.1.toNat % 16 : Nat) : Int) (some ⟨gf, 0, none⟩) 128 128 (List.replicate 128 x.2) hmf.reads (fun a e => by injection e with e; rw [← e]; exact Nat.ne_of_gt (Nat.lt_of_lt_of_le hpl hgf)) (by have := HLX.out.few; omega)).mono ?_
          rintro e wf ⟨rfl, hdf, htf⟩
          have XF := XE.turn htf hnt
          have D4 := Lib.hid (hdf.mono hin.tight_le)
          have B4 := Lib.hid (BE.out.trans ((htf.mono hin.tight_le).below HFW.out BE.out.size))
          have X4 := Lib.hid XF
          have T4 := Lib.hid (TE.out.trans (htf.mono hin.tight_le))
          refine hK.out _ _ ⟨(XF.get 0 _ rfl).1, (XF.get 1 _ rfl).1⟩ (fun hHeld => ?_)
          try simp only [Act.put, List.getElem_toArray, List.getElem_cons_succ, List.getElem_cons_zero, List.setIfInBounds_toArray, List.set_cons_zero, List.set_cons_succ]
          clear hnt hdf htf XF XE BE hmf hgf hbf hin hpl DD XD BD TD TE
          refine wpAnyH_done (by kernel_rfl) ?_ _
          clear hHeld tx wx wx2 wu HV X4
          have hL := HLX.out.write (by omega) (x.1.toNat % 16) (Nat.mod_lt _ (by decide)) (List.replicate 128 x.2) (by simp)
          have HLW := Lib.hid hL
          clear hL HLX
          go_wp2_with fail
          refine (flush_any _ D4.out).mono ?_
          rintro e wg ⟨rfl, hd, ht⟩
          rw [live_flushE HLW.out]
          have D6 := Lib.hid hd
          have T6 := Lib.hid (T4.out.trans ht)
          have B6 := Lib.hid (B4.out.trans (ht.below HFW.out B4.out.size))
          clear hd ht
          go_wp2_with fail
          go_roundw
          case rel => exact ⟨k + 1, by omega, by go_num, ⟨_, HLW.out.flush' 20, D6.out⟩, T6.out, B6.out⟩
          case measure => simp [intOf]; omega
        · obtain rfl : m2 = k := by omega
          have DZ := Lib.hid (D9.out.turn TX.out NTp.out NTq.out NTv.out)
          have MZ := Lib.hid (M9.out.turn TX.out NT7.out)
          have PZ := Lib.hid (fun j hj => (P9.out j hj).turn TX.out (NTg.out _ (by have := getD_ge gs _ j GE.out hj; have := HS4.out; omega) (P9.out j hj).lt) : ∀ j, j < gs.length → Mem8 wr (gs.getD j 0) 0 128 (readB E j))
          have RZ : Hid (ReadsI wr A9 E.waits.length (cachedL E)) := Lib.hid ⟨RI.out.1, RI.out.2.turn TX.out fun a e => by
            have hv := HVB.out a.block (by rw [e]; rfl)
            exact NTg.out _ (by have := HQ7.out; omega) hv.2⟩
          have BZ := Lib.hid BX.out
          clear D9 M9 P9 RI HOWN HVB NTp NTq NTv NT7 NTg BX TX hk hlt
          go_wp2_with fail
          go_loopw [89] (fun i wx => ∃ k : Nat, k ≤ 16 ∧ i = .int .i64 (k : Int) ∧ Below wr.heap.size wr wx) (fun i _ => 16 - (intOf i).toNat)
          case atStart => exact ⟨0, Nat.zero_le _, rfl, Below.refl _ _⟩
          case round =>
            obtain ⟨k, hk, rfl, hb⟩ := hrel
            have HB := Lib.hid hb
            have DY := Lib.hid (DZ.out.keep hb)
            have MY := Lib.hid (MZ.out.keep hb)
            have PY := Lib.hid (fun j hj => (PZ.out j hj).keep hb : ∀ j, j < gs.length → Mem8 _ (gs.getD j 0) 0 128 (readB E j))
            have RY : Hid (ReadsI _ A9 E.waits.length (cachedL E)) := Lib.hid (RZ.out.keep hb)
            have KY := Lib.hid (KX.out.keep hb)
            clear hb
            by_cases hlt : k < 16
            · have k0 : (0 : Int) ≤ (k : Int) := by omega
              have k1 : (k : Int) < 16 := by omega
              have kw : IntKind.i64.wrap ((k : Int) + 1) = (k : Int) + 1 := IntWalk.i64_in _ (by omega)
              have HKN : Hid (k < E.blks.length) := Lib.hid (by rw [HLV.out.n]; exact hlt)
              go_wp2_with fail
              refine (read_yes _ ⟨_, _, DY.out⟩ k HLV.out.up HKN.out).mono ?_
              rintro e wk ⟨g1, rfl, hg1, hm1', hb⟩
              have G1 := Lib.hid hm1'.reads
              have MK := MY.out.keep hb
              have PK := Lib.hid ((PY.out k (by rw [GL.out]; exact hlt)).keep hb).reads
              have HB2 := Lib.hid (HB.out.trans (hb.mono HB.out.size))
              have hcell := (MK.get k _ (row_full gs GL.out k hlt)).1
              obtain ⟨gk, hgk⟩ : ∃ gk, gs.getD k 0 = gk := ⟨_, rfl⟩
              rw [hgk] at hcell PK
              unfold sl at hcell
              clear hb hm1' hg1 MK hgk
              go_wp2_with fail
              refine (equal_any _ _ 128 128 128 128 _ _ _ G1.out PK.out).mono ?_
              rintro e w' ⟨rfl, rfl⟩
              rw [show same8 (readB E k) (readB E k) = true from same8_iff.2 rfl]
              clear hcell
              go_wp2_with fail
              go_roundw
              case rel => exact ⟨k + 1, by omega, by go_num, HB2.out⟩
              case measure => simp [intOf]; omega
            · obtain rfl : k = 16 := by omega
              rw [show ((16 : Nat) : Int) = 16 from rfl]
              go_wp2_with fail
              refine (cached_any _ ⟨_, _, DY.out⟩).mono ?_
              rintro e wk ⟨v, rfl, hown, hb⟩
              obtain ⟨Ak, ck, rfl, hrI, hnck, hcmk⟩ := own_readsI hown
              have RK := Lib.hid (RY.out.keep hb)
              have RK2 := Lib.hid hrI
              have KK := Lib.hid (KY.out.keep hb)
              have HB2 := Lib.hid (HB.out.trans (hb.mono HB.out.size))
              have hfew := HLV.out.few
              clear hb hown hrI
              go_wp2_with fail
              refine (eqplaces_any _ _ _ _ _ _ (cachedL E) (cachedL E) _ RK2.out RK.out (Nat.le_trans hnck hcmk) (Nat.le_trans hnck hcmk)).mono ?_
              rintro e wl ⟨rfl, hqq⟩
              rw [show sameI (cachedL E) (cachedL E) = true from sameI_iff.2 rfl]
              have KL := Lib.hid (KK.out.keep hqq.below)
              have HB3 := Lib.hid (HB2.out.trans (hqq.below.mono HB2.out.size))
              clear hqq
              go_wp2_with fail
              refine (len_any _ KL.out).mono ?_
              rintro e w' ⟨rfl, rfl⟩
              rw [HLX.out.n]
              go_wp2_with fail
              refine (awake_any _).mono ?_
              rintro e wz ⟨rfl, hbz⟩
              have BF := Lib.hid (BZ.out.trans ((HB3.out.trans (hbz.mono HB3.out.size)).mono BZ.out.size))
              clear hbz
              go_wp2_with fail
              go_ret
              exact ⟨rfl, BF.out⟩

theorem lawCopy (A1 A2 : Option Addr) (n1 c1 n2 c2 : Nat) (l1 l2 : List (UInt8 × UInt8)) (w : World) (hl1 : l1.length = n1) (hc1 : Cells w A1 (putcells l1)) (hn1 : n1 ≤ c1) (hm1 : c1 ≤ maxLen) (hl2 : l2.length = n2) (hc2 : Cells w A2 (putcells l2)) (hn2 : n2 ≤ c2) (hm2 : c2 ≤ maxLen) :
    Calls Try.prog 7 #[.slice A1 n1 c1, .slice A2 n2 c2] w fun e w' => e = .returned (.bool true) ∧ Below w.heap.size w w' :=
  copy_in A1 A2 n1 c1 n2 c2 l1 l2 w _ _ hl1 hl2 hc1 hc2 hn1 hm1 hn2 hm2 rfl rfl

end Go.Proofs.Ytdnhlpddnbholaa
