/-
  DiskArmed: the walk.
-/
import Derived.Test.YtdnhlpddnbholaaDkP
namespace Go.Proofs.Ytdnhlpddnbholaa
open Go.RowKit
set_option linter.unusedVariables false
set_option linter.unusedSimpArgs false
attribute [local go_sem ↓] Go.wp_at_zero Go.wp_at_succ

/-- The disk behind k writes, armed with a number. -/
def armK (l : List (UInt8 × UInt8)) (many : Nat) : Nat → Dk
  | 0 => armed (newD 16) many
  | k + 1 => written (armK l many k) ((l.getD k (0, 0)).1.toNat % 16 : Nat) (List.replicate 128 (l.getD k (0, 0)).2)
structure ArmS (D : Dk) (many k : Nat) : Prop where
  ok : D.Ok
  n : D.blks.length = 16
  down : D.down = decide (many < k)
  left : D.left = if many < k then -1 else (many : Int) - (k : Int)
  wl : D.waits.length = min k many
theorem arm_zero (many : Nat) (hm : many ≤ 1000) : ArmS (armed (newD 16) many) many 0 := by
  have hok := armed_ok (newD_ok 16 (by decide) (by decide)) (many : Int) (by omega)
  have e : armed (newD 16) (many : Int) = { newD 16 with left := (many : Int) } := by
    unfold armed
    rw [if_neg (by decide), if_neg (by omega)]
  rw [e] at hok ⊢
  exact ⟨hok, by simp [newD], by simp [newD], by simp, by simp [newD]⟩
theorem arm_write {D : Dk} {many k : Nat} (h : ArmS D many k) (hk : k < 1000) (a : Nat) (ha : a < 16) (b : List UInt8) (hb : b.length = 128) :
    ArmS (written D (a : Int) b) many (k + 1) ∧ writeE D (a : Int) 128 = if k < many then 0 else 20 := by
  have hok := written_ok h.ok (a : Int) b (by rw [h.wl]; omega)
  have hbad : ¬ ((a : Int) < 0 ∨ (D.blks.length : Int) ≤ (a : Int) ∨ b.length ≠ 128) := by rw [h.n]; omega
  have hbad2 : ¬ ((a : Int) < 0 ∨ (D.blks.length : Int) ≤ (a : Int) ∨ (128 : Nat) ≠ 128) := by rw [h.n]; omega
  by_cases h1 : many < k
  · have hd : D.down = true := by rw [h.down]; simpa using h1
    have e : written D (a : Int) b = D := by unfold written; rw [if_pos hd]
    rw [e] at hok ⊢
    refine ⟨⟨hok, h.n, ?_, ?_, ?_⟩, ?_⟩
    · rw [hd]; symm; simp; omega
    · rw [h.left, if_pos h1, if_pos (by omega)]
    · rw [h.wl]; omega
    · unfold writeE; rw [if_pos hd, if_neg (by omega)]
  · have hd : D.down = false := by rw [h.down]; simpa using h1
    have hl : D.left = (many : Int) - (k : Int) := by rw [h.left, if_neg h1]
    by_cases h2 : many = k
    · have hl0 : D.left = 0 := by rw [hl, h2]; omega
      have e : written D (a : Int) b = { D with left := -1, down := true } := by
        unfold written
        rw [if_neg (by rw [hd]; decide), if_neg hbad, if_pos hl0]
        unfold powered
        rw [if_neg (by omega), if_pos hl0]
      rw [e] at hok ⊢
      refine ⟨⟨hok, h.n, ?_, ?_, ?_⟩, ?_⟩
      · simp; omega
      · simp; omega
      · show D.waits.length = _
        rw [h.wl]; omega
      · unfold writeE powerE
        rw [if_neg (by rw [hd]; decide), if_neg hbad2, if_pos hl0, if_neg (by omega)]
    · have hl0 : D.left ≠ 0 := by omega
      have e : written D (a : Int) b = { D with left := D.left - 1, waits := D.waits ++ [(a, b)] } := by
        unfold written
        rw [if_neg (by rw [hd]; decide), if_neg hbad, if_neg hl0]
        unfold powered
        rw [if_neg (by omega), if_neg hl0]
        rfl
      rw [e] at hok ⊢
      refine ⟨⟨hok, h.n, ?_, ?_, ?_⟩, ?_⟩
      · show D.down = _
        rw [hd]; symm; simp; omega
      · show D.left - 1 = _
        rw [hl, if_neg (by omega)]; omega
      · show (D.waits ++ [(a, b)]).length = _
        rw [List.length_append, h.wl, List.length_singleton]; omega
      · unfold writeE powerE
        rw [if_neg (by rw [hd]; decide), if_neg hbad2, if_neg hl0, if_pos (by omega)]
theorem armK_s (l : List (UInt8 × UInt8)) (many : Nat) (hm : many ≤ 1000) : ∀ k, k ≤ 1000 → ArmS (armK l many k) many k
  | 0, _ => arm_zero many hm
  | k + 1, h => (arm_write (armK_s l many hm k (by omega)) (by omega) _ (Nat.mod_lt _ (by decide)) _ (by simp)).1
/-- Behind a crash a disk has power for ever. -/
theorem crash_live {D : Dk} (h : D.Ok) (hn : D.blks.length = 16) : Live (crashed D [] (-1) 0) 0 := by
  have hok := crashed_ok h [] (-1) 0
  have e : crashed D [] (-1) 0 = ⟨crashK [] (-1) 0 D D.waits.length, [], -1, false⟩ := by unfold crashed; rw [if_neg (by decide)]; rfl
  rw [e] at hok ⊢
  exact ⟨hok, (crashK_length _ _ _ _ _).trans hn, rfl, rfl, Nat.le_refl _⟩

set_option maxRecDepth 100000 in
set_option maxHeartbeats 8000000 in
theorem armed_in (y : UInt8) (A : Option Addr) (n0 c : Nat) (l : List (UInt8 × UInt8)) (w : World) (many m : Nat) (hl : l.length = n0) (hc : Cells w A (putcells l)) (hnc : n0 ≤ c) (hcm : c ≤ maxLen) (hmany : many = y.toNat % 41) (hm : m = min n0 30) :
    Calls Try.prog 4 #[.int .u8 (y.toNat : Int), .slice A n0 c] w fun e w' => e = .returned (.bool true) ∧ Below w.heap.size w w' := by
  unfold maxLen at hcm
  have hml : m ≤ l.length := by omega
  have hm30 : m ≤ 30 := by omega
  have hmy : many ≤ 40 := by omega
  have t1 : wrap64 (y.toNat : Int) = (y.toNat : Int) := by have := UInt8.toNat_lt y; simp only [wrap64]; omega
  have t2 : (y.toNat : Int).tmod 41 = (many : Int) := by rw [Int.tmod_eq_emod_of_nonneg (by omega), hmany]; rfl
  have t3 : min (n0 : Int) 30 = (m : Int) := by omega
  have HC := Lib.hid hc
  have HL := Lib.hid hl
  have HFW : Hid (∀ k, (fun b => w.heap.size ≤ b) k → w.heap.size ≤ k) := Lib.hid fun k h => h
  clear hc hmany hm hl
  go_enter Try.func4, Try.ntmps4
  go_wp2_with fail
  clear t1 t2 t3
  refine (new_good 16 _ (by decide) (by decide) (fun b => w.heap.size ≤ b) (fun b h => h)).mono ?_
  rintro e w1 ⟨p, q, rfl, hp, hq, hd, hb⟩
  have D1 := Lib.hid hd
  have B1 := Lib.hid hb
  clear hd hb hp hq
  go_wp2_with fail
  refine (arm_any _ D1.out (many : Int) (by omega) (by omega)).mono ?_
  rintro e w2 ⟨rfl, hd, ht⟩
  rw [show armE (newD 16) (many : Int) = 0 by unfold armE; rw [if_neg (by decide), if_neg (by omega)]]
  have D2 : Hid (DiskAt (fun b => w.heap.size ≤ b) w2 p q (armK l many 0)) := Lib.hid hd
  have B2 := Lib.hid (B1.out.trans (ht.below HFW.out B1.out.size))
  clear hd ht D1 B1
  go_wp2_with fail
  go_loopw [8, 39] (fun o i wr => ∃ k : Nat, k ≤ m ∧ i = .int .i64 (k : Int) ∧ o = .int .i64 ((min k many : Nat) : Int) ∧ DiskAt (fun b => w.heap.size ≤ b) wr p q (armK l many k) ∧ Below w.heap.size w wr) (fun _ i _ => m - (intOf i).toNat)
  case atStart => exact ⟨0, Nat.zero_le _, rfl, by simp, D2.out, B2.out⟩
  case round =>
    obtain ⟨k, hk, rfl, rfl, hDk, hb⟩ := hrel
    obtain ⟨cc, vv, hDk⟩ := hDk
    have DK := Lib.hid hDk
    have BK := Lib.hid hb
    have CK := Lib.hid (HC.out.keep hb)
    have VL := Lib.hid (fun g hg => (hDk.waits.lt g hg).2 : ∀ g, vv.ownBlock = some g → g < wr.heap.size)
    have HS := Lib.hid (armK_s l many (by omega) k (by omega))
    clear hDk hb D2 B2
    by_cases hlt : k < m
    · have hkl : k < l.length := by omega
      have hstep : armK l many (k + 1) = written (armK l many k) ((l.getD k (0, 0)).1.toNat % 16 : Nat) (List.replicate 128 (l.getD k (0, 0)).2) := rfl
      rw [show l.getD k (0, 0) = l[k]'hkl by rw [List.getD_eq_getElem?_getD, List.getElem?_eq_getElem hkl]; rfl] at hstep
      have HST0 := Lib.hid hstep
      clear hstep
      obtain ⟨ab, ao, rfl, hcl⟩ := CK.out (by rw [putcells_length]; omega)
      have hp0 := hcl.cell (k * 2) (by rw [putcells_length]; omega)
      have hp1 := hcl.cell (k * 2 + 1) (by rw [putcells_length]; omega)
      obtain ⟨g0, g1⟩ := putcells_get l k (by omega)
      have hx0 : (putcells l)[k * 2]'(by rw [putcells_length]; omega) = .int .u8 (l[k].1.toNat : Int) := (List.getElem?_eq_some_iff.1 g0).2
      have hx1 : (putcells l)[k * 2 + 1]'(by rw [putcells_length]; omega) = .int .u8 (l[k].2.toNat : Int) := (List.getElem?_eq_some_iff.1 g1).2
      rw [hx0] at hp0
      rw [hx1, ← Nat.add_assoc] at hp1
      obtain ⟨x, hx⟩ : ∃ x, x = l[k]'(by omega) := ⟨_, rfl⟩
      rw [← hx] at hp0 hp1
      have HX := Lib.hid hx
      clear hx hx0 hx1 g0 g1 hcl
      have HST : Hid (armK l many (k + 1) = written (armK l many k) (x.1.toNat % 16 : Nat) (List.replicate 128 x.2)) := Lib.hid (by rw [HX.out]; exact HST0.out)
      have k0 : (0 : Int) ≤ (k : Int) := by omega
      have k1 : (k : Int) < (m : Int) := by omega
      have kw : IntKind.i64.wrap ((k : Int) + 1) = (k : Int) + 1 := IntWalk.i64_in _ (by omega)
      clear HST0 HX
      have HWS := Lib.hid (arm_write HS.out (by omega) (x.1.toNat % 16) (Nat.mod_lt _ (by decide)) (List.replicate 128 x.2) (by simp))
      rcases (show k < many ∨ k = many ∨ many < k by omega) with hkm | hkm | hkm
      · have hdn : (armK l many k).down = false := by rw [HS.out.down]; simp; omega
        have HDN := Lib.hid hdn
        have H16 := Lib.hid HS.out.n
        have HRE : Hid (readE (armK l many k) 16 = 2) := Lib.hid (by unfold readE; rw [hdn]; rw [if_neg (by decide), if_pos (.inr (by rw [H16.out]; decide))])
        have HWE : Hid (writeE (armK l many k) 16 128 = 2) := Lib.hid (by unfold writeE; rw [hdn]; rw [if_neg (by decide), if_pos (.inr (.inl (by rw [H16.out]; decide)))])
        have HWV : Hid (writeE (armK l many k) ((x.1.toNat % 16 : Nat) : Int) 128 = 0) := Lib.hid (by rw [HWS.out.2, if_pos hkm])
        obtain ⟨dk, hdk⟩ : ∃ dk : Nat, dk = min k many := ⟨_, rfl⟩
        have hdk2 : dk + 1 = min (k + 1) many := by omega
        have HDK := Lib.hid hdk2
        rw [← hdk]
        have hdo : ((dk : Int) < (many : Int)) = True := by exact eq_true (by omega)
        have hdn2 : (armK l many (k + 1)).down = false := by rw [HST.out, HWS.out.1.down]; simp; omega
        have HD2 := Lib.hid hdn2
        have hle : (dk : Int) ≤ (many : Int) := by omega
        have hkn : k < many := by omega
        clear hdn hdn2 hkm hdk hdk2
        go_upto_region 10 with fail
        obtain ⟨w2, hw2⟩ : ∃ W : World, W = wr.alloc (.cells #[.int .u8 (x.1.toNat : Int), .int .u8 (x.2.toNat : Int)] 36) := ⟨_, rfl⟩
        have hb : Below wr.heap.size wr w2 := by rw [hw2]; exact (Below.refl _ wr).alloc (Nat.le_refl _) _
        have hx2 : MemC w2 wr.heap.size 0 [.int .u8 (x.1.toNat : Int), .int .u8 (x.2.toNat : Int)] := by rw [hw2]; exact MemC.new wr [.int .u8 (x.1.toNat : Int), .int .u8 (x.2.toNat : Int)] _
        rw [← hw2]
        have D2 := Lib.hid (DK.out.keep hb)
        have B2 := Lib.hid (BK.out.trans (hb.mono BK.out.size))
        have X2 := Lib.hid hx2
        have HV : Hid (p < wr.heap.size ∧ q < wr.heap.size ∧ ∀ g, vv.ownBlock = some g → g < wr.heap.size) := Lib.hid ⟨DK.out.lt.1, DK.out.lt.2, VL.out⟩
        obtain ⟨q8, hq8⟩ : ∃ y, y = wr.heap.size := ⟨_, rfl⟩
        rw [← hq8] at X2 HV ⊢
        clear hb hx2 hw2 hq8 DK BK VL CK hp0 hp1
        go_wp2_with fail
        refine (read_no _ ⟨_, _, D2.out⟩ 16 (.inr (.inr (by rw [H16.out]; decide)))).mono ?_
        rintro e w' ⟨rfl, rfl⟩
        rw [HRE.out]
        go_wp2_with fail
        refine (filled_any 0 _).mono ?_
        rintro e w3 ⟨gz, rfl, _, _, hb⟩
        have D3 := Lib.hid (D2.out.keep hb)
        have B3 := Lib.hid (B2.out.trans (hb.mono B2.out.size))
        have X := Lib.hid (X2.out.keep hb)
        clear hb D2 B2 X2
        go_wp2_with fail
        refine (write_no _ ⟨_, _, D3.out⟩ 16 _ 128 128 (.inr (.inr (.inl (by rw [H16.out]; decide))))).mono ?_
        rintro e w' ⟨rfl, rfl⟩
        rw [HWE.out]
        go_upto_region 14 with fail
        have bd : Below w3.heap.size w3 w3.drew := (Below.refl w3.heap.size w3).drew
        have DD := Lib.hid (D3.out.keep bd)
        have XD := Lib.hid (X.out.keep bd)
        have BD := Lib.hid (B3.out.trans (bd.mono B3.out.size))
        obtain ⟨wd, hwd⟩ : ∃ W : World, W = w3.drew := ⟨_, rfl⟩
        rw [← hwd] at DD XD BD
        have tx : (x.1.toNat : Int).tmod 16 = ((x.1.toNat % 16 : Nat) : Int) := by rw [Int.tmod_eq_emod_of_nonneg (by omega)]; rfl
        have wx : IntKind.i64.wrap ((x.1.toNat % 16 : Nat) : Int) = ((x.1.toNat % 16 : Nat) : Int) := IntWalk.i64_in _ (by omega)
        have wx2 : IntKind.i64.wrap ((x.1.toNat : Int) % 16) = (x.1.toNat : Int) % 16 := IntWalk.i64_in _ (by omega)
        have wu : IntKind.u8.wrap ((x.1.toNat % 16 : Nat) : Int) = ((x.1.toNat % 16 : Nat) : Int) := IntWalk.u8_in _ (by omega)
        have hS : wd.cell? ⟨q8, 0, none⟩ = some (.int .u8 (x.1.toNat : Int)) ∧ wd.cell? ⟨q8, 1, none⟩ = some (.int .u8 (x.2.toNat : Int)) := ⟨(XD.out.get 0 _ rfl).1, (XD.out.get 1 _ rfl).1⟩
        refine wp_region_held_drew (S := fun w' => w'.cell? ⟨q8, 0, none⟩ = some (.int .u8 (x.1.toNat : Int)) ∧ w'.cell? ⟨q8, 1, none⟩ = some (.int .u8 (x.2.toNat : Int))) (by kernel_rfl) (by rw [← hwd]; exact hS) (fun hHeld => ?_)
        rw [← hwd] at hHeld ⊢
        clear hwd bd hS D3 B3 X
        refine wpAnyH_take (i := 0) (v := .pointer (some ⟨p, 0, none⟩)) rfl (by kernel_rfl) (by kernel_rfl) (by kernel_rfl) (fun _ _ _ h => h) (Or.inl ⟨by kernel_rfl, fun w _ => by go_simp⟩) hHeld ?_
        try simp only [Act.put, List.getElem_toArray, List.getElem_cons_succ, List.getElem_cons_zero, List.setIfInBounds_toArray, List.set_cons_zero, List.set_cons_succ]
        refine wpAnyH_take (i := 1) (v := .pointer (some ⟨q8, 0, none⟩)) rfl (by kernel_rfl) (by kernel_rfl) (by kernel_rfl) (fun _ _ _ h => h) (Or.inl ⟨by kernel_rfl, fun w _ => by go_simp⟩) hHeld ?_
        try simp only [Act.put, List.getElem_toArray, List.getElem_cons_succ, List.getElem_cons_zero, List.setIfInBounds_toArray, List.set_cons_zero, List.set_cons_succ]
        refine wpAnyH_take (i := 2) (v := .int .u8 (x.1.toNat : Int)) rfl (by kernel_rfl) (by kernel_rfl) (by kernel_rfl) (fun _ _ _ h => h) (Or.inl ⟨by kernel_rfl, fun w h => by have hc := h.1; go_simp⟩) hHeld ?_
        try simp only [Act.put, List.getElem_toArray, List.getElem_cons_succ, List.getElem_cons_zero, List.setIfInBounds_toArray, List.set_cons_zero, List.set_cons_succ]
        refine wpAnyH_take (i := 3) (v := .int .u8 ((x.1.toNat % 16 : Nat) : Int)) rfl (by kernel_rfl) (by kernel_rfl) (by kernel_rfl) (fun _ _ _ h => h) (Or.inl ⟨by kernel_rfl, fun w _ => by go_simp⟩) hHeld ?_
        try simp only [Act.put, List.getElem_toArray, List.getElem_cons_succ, List.getElem_cons_zero, List.setIfInBounds_toArray, List.set_cons_zero, List.set_cons_succ]
        refine wpAnyH_take (i := 4) (v := .int .i64 ((x.1.toNat % 16 : Nat) : Int)) rfl (by kernel_rfl) (by kernel_rfl) (by kernel_rfl) (fun _ _ _ h => h) (Or.inl ⟨by kernel_rfl, fun w _ => by go_simp⟩) hHeld ?_
        try simp only [Act.put, List.getElem_toArray, List.getElem_cons_succ, List.getElem_cons_zero, List.setIfInBounds_toArray, List.set_cons_zero, List.set_cons_succ]
        refine wpAnyH_take (i := 5) (v := .pointer (some ⟨q8, 1, none⟩)) rfl (by kernel_rfl) (by kernel_rfl) (by kernel_rfl) (fun _ _ _ h => h) (Or.inl ⟨by kernel_rfl, fun w _ => by go_simp⟩) hHeld ?_
        try simp only [Act.put, List.getElem_toArray, List.getElem_cons_succ, List.getElem_cons_zero, List.setIfInBounds_toArray, List.set_cons_zero, List.set_cons_succ]
        refine wpAnyH_take (i := 6) (v := .int .u8 (x.2.toNat : Int)) rfl (by kernel_rfl) (by kernel_rfl) (by kernel_rfl) (fun _ _ _ h => h) (Or.inl ⟨by kernel_rfl, fun w h => by have hc := h.2; go_simp⟩) hHeld ?_
        try simp only [Act.put, List.getElem_toArray, List.getElem_cons_succ, List.getElem_cons_zero, List.setIfInBounds_toArray, List.set_cons_zero, List.set_cons_succ]
        refine wpAnyH_ready (rs := [7]) (by kernel_rfl) (by simp) ?_
        refine AllReadyH.cons rfl (fun K hK => ?_) AllReadyH.nil
        go_simp
        go_at_call 19
        refine (filled_any x.2 _).mono ?_
        rintro e we ⟨gf, rfl, hgf, hmf, hbf⟩
        have hin := DD.out.keep hbf
        have XE := XD.out.keep hbf
        have BE := Lib.hid (BD.out.trans (hbf.mono BD.out.size))
        refine hK.out _ _ ⟨(XE.get 0 _ rfl).1, (XE.get 1 _ rfl).1⟩ (fun hHeld => ?_)
        try simp only [Act.put, List.getElem_toArray, List.getElem_cons_succ, List.getElem_cons_zero, List.setIfInBounds_toArray, List.set_cons_zero, List.set_cons_succ]
        have hpl := DD.out.lt.1
        have hnt : ¬ Tight we p q vv q8 := fun h => by
          have hv := HV.out
          have hxl := XE.at_.lt
          rcases h with h | h | h | h
          · omega
          · omega
          · have := hv.2.2 _ h; omega
          · omega
        refine wpAnyH_ready (rs := [8]) (by kernel_rfl) (by simp) ?_
        refine AllReadyH.cons rfl (fun K hK => ?_) AllReadyH.nil
        go_simp
        go_at_call 18
        refine (write_any _ hin.tight ((x.1.toNat % 16 : Nat) : Int) (some ⟨gf, 0, none⟩) 128 128 (List.replicate 128 x.2) hmf.reads (fun a e => by injection e with e; rw [← e]; exact Nat.ne_of_gt (Nat.lt_of_lt_of_le hpl hgf)) (by rw [HS.out.wl]; omega)).mono ?_
        rintro e wf ⟨rfl, hdf, htf⟩
        rw [HWV.out]
        have XF := XE.turn htf hnt
        have D4 := Lib.hid (hdf.mono hin.tight_le)
        have B4 := Lib.hid (BE.out.trans ((htf.mono hin.tight_le).below HFW.out BE.out.size))
        have X4 := Lib.hid XF
        refine hK.out _ _ ⟨(XF.get 0 _ rfl).1, (XF.get 1 _ rfl).1⟩ (fun hHeld => ?_)
        try simp only [Act.put, List.getElem_toArray, List.getElem_cons_succ, List.getElem_cons_zero, List.setIfInBounds_toArray, List.set_cons_zero, List.set_cons_succ]
        clear hnt hdf htf XF XE BE hmf hgf hbf hin hpl DD XD BD
        refine wpAnyH_take (i := 9) (v := .int .i64 0) rfl (by kernel_rfl) (by kernel_rfl) (by kernel_rfl) (fun _ _ _ h => h) (Or.inl ⟨by kernel_rfl, fun w _ => by go_simp⟩) hHeld ?_
        try simp only [Act.put, List.getElem_toArray, List.getElem_cons_succ, List.getElem_cons_zero, List.setIfInBounds_toArray, List.set_cons_zero, List.set_cons_succ]
        refine wpAnyH_done (by kernel_rfl) ?_ _
        have D5 : Hid (DiskAt (fun b => w.heap.size ≤ b) wf p q (armK l many (k + 1))) := Lib.hid (by rw [HST.out]; exact D4.out)
        clear hHeld tx wx wx2 wu HV X4 D4 HWV
        have hw3 : IntKind.i64.wrap ((dk : Int) + 1) = (dk : Int) + 1 := IntWalk.i64_in _ (by omega)
        go_wp2_with fail
        go_roundw
        case rel => exact ⟨k + 1, by omega, by go_num, by rw [← HDK.out]; go_num, D5.out, B4.out⟩
        case measure => simp [intOf]; omega
      · have hdn : (armK l many k).down = false := by rw [HS.out.down]; simp; omega
        have HDN := Lib.hid hdn
        have H16 := Lib.hid HS.out.n
        have HRE : Hid (readE (armK l many k) 16 = 2) := Lib.hid (by unfold readE; rw [hdn]; rw [if_neg (by decide), if_pos (.inr (by rw [H16.out]; decide))])
        have HWE : Hid (writeE (armK l many k) 16 128 = 2) := Lib.hid (by unfold writeE; rw [hdn]; rw [if_neg (by decide), if_pos (.inr (.inl (by rw [H16.out]; decide)))])
        have HWV : Hid (writeE (armK l many k) ((x.1.toNat % 16 : Nat) : Int) 128 = 20) := Lib.hid (by rw [HWS.out.2, if_neg (by omega)])
        obtain ⟨dk, hdk⟩ : ∃ dk : Nat, dk = min k many := ⟨_, rfl⟩
        have hdk2 : dk = min (k + 1) many := by omega
        have HDK := Lib.hid hdk2
        rw [← hdk]
        have hdo : ((dk : Int) < (many : Int)) = False := by exact eq_false (by omega)
        have hdn2 : (armK l many (k + 1)).down = true := by rw [HST.out, HWS.out.1.down]; simp; omega
        have HD2 := Lib.hid hdn2
        have hle : (dk : Int) ≤ (many : Int) := by omega
        have hkn : many ≤ k := by omega
        clear hdn hdn2 hkm hdk hdk2
        go_upto_region 10 with fail
        obtain ⟨w2, hw2⟩ : ∃ W : World, W = wr.alloc (.cells #[.int .u8 (x.1.toNat : Int), .int .u8 (x.2.toNat : Int)] 36) := ⟨_, rfl⟩
        have hb : Below wr.heap.size wr w2 := by rw [hw2]; exact (Below.refl _ wr).alloc (Nat.le_refl _) _
        have hx2 : MemC w2 wr.heap.size 0 [.int .u8 (x.1.toNat : Int), .int .u8 (x.2.toNat : Int)] := by rw [hw2]; exact MemC.new wr [.int .u8 (x.1.toNat : Int), .int .u8 (x.2.toNat : Int)] _
        rw [← hw2]
        have D2 := Lib.hid (DK.out.keep hb)
        have B2 := Lib.hid (BK.out.trans (hb.mono BK.out.size))
        have X2 := Lib.hid hx2
        have HV : Hid (p < wr.heap.size ∧ q < wr.heap.size ∧ ∀ g, vv.ownBlock = some g → g < wr.heap.size) := Lib.hid ⟨DK.out.lt.1, DK.out.lt.2, VL.out⟩
        obtain ⟨q8, hq8⟩ : ∃ y, y = wr.heap.size := ⟨_, rfl⟩
        rw [← hq8] at X2 HV ⊢
        clear hb hx2 hw2 hq8 DK BK VL CK hp0 hp1
        go_wp2_with fail
        refine (read_no _ ⟨_, _, D2.out⟩ 16 (.inr (.inr (by rw [H16.out]; decide)))).mono ?_
        rintro e w' ⟨rfl, rfl⟩
        rw [HRE.out]
        go_wp2_with fail
        refine (filled_any 0 _).mono ?_
        rintro e w3 ⟨gz, rfl, _, _, hb⟩
        have D3 := Lib.hid (D2.out.keep hb)
        have B3 := Lib.hid (B2.out.trans (hb.mono B2.out.size))
        have X := Lib.hid (X2.out.keep hb)
        clear hb D2 B2 X2
        go_wp2_with fail
        refine (write_no _ ⟨_, _, D3.out⟩ 16 _ 128 128 (.inr (.inr (.inl (by rw [H16.out]; decide))))).mono ?_
        rintro e w' ⟨rfl, rfl⟩
        rw [HWE.out]
        go_upto_region 14 with fail
        have bd : Below w3.heap.size w3 w3.drew := (Below.refl w3.heap.size w3).drew
        have DD := Lib.hid (D3.out.keep bd)
        have XD := Lib.hid (X.out.keep bd)
        have BD := Lib.hid (B3.out.trans (bd.mono B3.out.size))
        obtain ⟨wd, hwd⟩ : ∃ W : World, W = w3.drew := ⟨_, rfl⟩
        rw [← hwd] at DD XD BD
        have tx : (x.1.toNat : Int).tmod 16 = ((x.1.toNat % 16 : Nat) : Int) := by rw [Int.tmod_eq_emod_of_nonneg (by omega)]; rfl
        have wx : IntKind.i64.wrap ((x.1.toNat % 16 : Nat) : Int) = ((x.1.toNat % 16 : Nat) : Int) := IntWalk.i64_in _ (by omega)
        have wx2 : IntKind.i64.wrap ((x.1.toNat : Int) % 16) = (x.1.toNat : Int) % 16 := IntWalk.i64_in _ (by omega)
        have wu : IntKind.u8.wrap ((x.1.toNat % 16 : Nat) : Int) = ((x.1.toNat % 16 : Nat) : Int) := IntWalk.u8_in _ (by omega)
        have hS : wd.cell? ⟨q8, 0, none⟩ = some (.int .u8 (x.1.toNat : Int)) ∧ wd.cell? ⟨q8, 1, none⟩ = some (.int .u8 (x.2.toNat : Int)) := ⟨(XD.out.get 0 _ rfl).1, (XD.out.get 1 _ rfl).1⟩
        refine wp_region_held_drew (S := fun w' => w'.cell? ⟨q8, 0, none⟩ = some (.int .u8 (x.1.toNat : Int)) ∧ w'.cell? ⟨q8, 1, none⟩ = some (.int .u8 (x.2.toNat : Int))) (by kernel_rfl) (by rw [← hwd]; exact hS) (fun hHeld => ?_)
        rw [← hwd] at hHeld ⊢
        clear hwd bd hS D3 B3 X
        refine wpAnyH_take (i := 0) (v := .pointer (some ⟨p, 0, none⟩)) rfl (by kernel_rfl) (by kernel_rfl) (by kernel_rfl) (fun _ _ _ h => h) (Or.inl ⟨by kernel_rfl, fun w _ => by go_simp⟩) hHeld ?_
        try simp only [Act.put, List.getElem_toArray, List.getElem_cons_succ, List.getElem_cons_zero, List.setIfInBounds_toArray, List.set_cons_zero, List.set_cons_succ]
        refine wpAnyH_take (i := 1) (v := .pointer (some ⟨q8, 0, none⟩)) rfl (by kernel_rfl) (by kernel_rfl) (by kernel_rfl) (fun _ _ _ h => h) (Or.inl ⟨by kernel_rfl, fun w _ => by go_simp⟩) hHeld ?_
        try simp only [Act.put, List.getElem_toArray, List.getElem_cons_succ, List.getElem_cons_zero, List.setIfInBounds_toArray, List.set_cons_zero, List.set_cons_succ]
        refine wpAnyH_take (i := 2) (v := .int .u8 (x.1.toNat : Int)) rfl (by kernel_rfl) (by kernel_rfl) (by kernel_rfl) (fun _ _ _ h => h) (Or.inl ⟨by kernel_rfl, fun w h => by have hc := h.1; go_simp⟩) hHeld ?_
        try simp only [Act.put, List.getElem_toArray, List.getElem_cons_succ, List.getElem_cons_zero, List.setIfInBounds_toArray, List.set_cons_zero, List.set_cons_succ]
        refine wpAnyH_take (i := 3) (v := .int .u8 ((x.1.toNat % 16 : Nat) : Int)) rfl (by kernel_rfl) (by kernel_rfl) (by kernel_rfl) (fun _ _ _ h => h) (Or.inl ⟨by kernel_rfl, fun w _ => by go_simp⟩) hHeld ?_
        try simp only [Act.put, List.getElem_toArray, List.getElem_cons_succ, List.getElem_cons_zero, List.setIfInBounds_toArray, List.set_cons_zero, List.set_cons_succ]
        refine wpAnyH_take (i := 4) (v := .int .i64 ((x.1.toNat % 16 : Nat) : Int)) rfl (by kernel_rfl) (by kernel_rfl) (by kernel_rfl) (fun _ _ _ h => h) (Or.inl ⟨by kernel_rfl, fun w _ => by go_simp⟩) hHeld ?_
        try simp only [Act.put, List.getElem_toArray, List.getElem_cons_succ, List.getElem_cons_zero, List.setIfInBounds_toArray, List.set_cons_zero, List.set_cons_succ]
        refine wpAnyH_take (i := 5) (v := .pointer (some ⟨q8, 1, none⟩)) rfl (by kernel_rfl) (by kernel_rfl) (by kernel_rfl) (fun _ _ _ h => h) (Or.inl ⟨by kernel_rfl, fun w _ => by go_simp⟩) hHeld ?_
        try simp only [Act.put, List.getElem_toArray, List.getElem_cons_succ, List.getElem_cons_zero, List.setIfInBounds_toArray, List.set_cons_zero, List.set_cons_succ]
        refine wpAnyH_take (i := 6) (v := .int .u8 (x.2.toNat : Int)) rfl (by kernel_rfl) (by kernel_rfl) (by kernel_rfl) (fun _ _ _ h => h) (Or.inl ⟨by kernel_rfl, fun w h => by have hc := h.2; go_simp⟩) hHeld ?_
        try simp only [Act.put, List.getElem_toArray, List.getElem_cons_succ, List.getElem_cons_zero, List.setIfInBounds_toArray, List.set_cons_zero, List.set_cons_succ]
        refine wpAnyH_ready (rs := [7]) (by kernel_rfl) (by simp) ?_
        refine AllReadyH.cons rfl (fun K hK => ?_) AllReadyH.nil
        go_simp
        go_at_call 19
        refine (filled_any x.2 _).mono ?_
        rintro e we ⟨gf, rfl, hgf, hmf, hbf⟩
        have hin := DD.out.keep hbf
        have XE := XD.out.keep hbf
        have BE := Lib.hid (BD.out.trans (hbf.mono BD.out.size))
        refine hK.out _ _ ⟨(XE.get 0 _ rfl).1, (XE.get 1 _ rfl).1⟩ (fun hHeld => ?_)
        try simp only [Act.put, List.getElem_toArray, List.getElem_cons_succ, List.getElem_cons_zero, List.setIfInBounds_toArray, List.set_cons_zero, List.set_cons_succ]
        have hpl := DD.out.lt.1
        have hnt : ¬ Tight we p q vv q8 := fun h => by
          have hv := HV.out
          have hxl := XE.at_.lt
          rcases h with h | h | h | h
          · omega
          · omega
          · have := hv.2.2 _ h; omega
          · omega
        refine wpAnyH_ready (rs := [8]) (by kernel_rfl) (by simp) ?_
        refine AllReadyH.cons rfl (fun K hK => ?_) AllReadyH.nil
        go_simp
        go_at_call 18
        refine (write_any _ hin.tight ((x.1.toNat % 16 : Nat) : Int) (some ⟨gf, 0, none⟩) 128 128 (List.replicate 128 x.2) hmf.reads (fun a e => by injection e with e; rw [← e]; exact Nat.ne_of_gt (Nat.lt_of_lt_of_le hpl hgf)) (by rw [HS.out.wl]; omega)).mono ?_
        rintro e wf ⟨rfl, hdf, htf⟩
        rw [HWV.out]
        have XF := XE.turn htf hnt
        have D4 := Lib.hid (hdf.mono hin.tight_le)
        have B4 := Lib.hid (BE.out.trans ((htf.mono hin.tight_le).below HFW.out BE.out.size))
        have X4 := Lib.hid XF
        refine hK.out _ _ ⟨(XF.get 0 _ rfl).1, (XF.get 1 _ rfl).1⟩ (fun hHeld => ?_)
        try simp only [Act.put, List.getElem_toArray, List.getElem_cons_succ, List.getElem_cons_zero, List.setIfInBounds_toArray, List.set_cons_zero, List.set_cons_succ]
        clear hnt hdf htf XF XE BE hmf hgf hbf hin hpl DD XD BD
        refine wpAnyH_take (i := 9) (v := .int .i64 20) rfl (by kernel_rfl) (by kernel_rfl) (by kernel_rfl) (fun _ _ _ h => h) (Or.inl ⟨by kernel_rfl, fun w _ => by go_simp⟩) hHeld ?_
        try simp only [Act.put, List.getElem_toArray, List.getElem_cons_succ, List.getElem_cons_zero, List.setIfInBounds_toArray, List.set_cons_zero, List.set_cons_succ]
        refine wpAnyH_done (by kernel_rfl) ?_ _
        have D5 : Hid (DiskAt (fun b => w.heap.size ≤ b) wf p q (armK l many (k + 1))) := Lib.hid (by rw [HST.out]; exact D4.out)
        clear hHeld tx wx wx2 wu HV X4 D4 HWV
        go_wp2_with fail
        refine (down_any _ D5.out).mono ?_
        rintro e w' ⟨rfl, rfl⟩
        rw [HD2.out]
        go_wp2_with fail
        go_roundw
        case rel => exact ⟨k + 1, by omega, by go_num, by rw [← HDK.out], D5.out, B4.out⟩
        case measure => simp [intOf]; omega
      · have hdn : (armK l many k).down = true := by rw [HS.out.down]; simp; omega
        have HDN := Lib.hid hdn
        have H16 := Lib.hid HS.out.n
        have HRE : Hid (readE (armK l many k) 16 = 20) := Lib.hid (by unfold readE; rw [hdn]; rfl)
        have HWE : Hid (writeE (armK l many k) 16 128 = 20) := Lib.hid (by unfold writeE; rw [hdn]; rfl)
        have HWV : Hid (writeE (armK l many k) ((x.1.toNat % 16 : Nat) : Int) 128 = 20) := Lib.hid (by rw [HWS.out.2, if_neg (by omega)])
        obtain ⟨dk, hdk⟩ : ∃ dk : Nat, dk = min k many := ⟨_, rfl⟩
        have hdk2 : dk = min (k + 1) many := by omega
        have HDK := Lib.hid hdk2
        rw [← hdk]
        have hdo : ((dk : Int) < (many : Int)) = False := by exact eq_false (by omega)
        have hdn2 : (armK l many (k + 1)).down = true := by rw [HST.out, HWS.out.1.down]; simp; omega
        have HD2 := Lib.hid hdn2
        have hle : (dk : Int) ≤ (many : Int) := by omega
        have hkn : many ≤ k := by omega
        clear hdn hdn2 hkm hdk hdk2
        go_upto_region 10 with fail
        obtain ⟨w2, hw2⟩ : ∃ W : World, W = wr.alloc (.cells #[.int .u8 (x.1.toNat : Int), .int .u8 (x.2.toNat : Int)] 36) := ⟨_, rfl⟩
        have hb : Below wr.heap.size wr w2 := by rw [hw2]; exact (Below.refl _ wr).alloc (Nat.le_refl _) _
        have hx2 : MemC w2 wr.heap.size 0 [.int .u8 (x.1.toNat : Int), .int .u8 (x.2.toNat : Int)] := by rw [hw2]; exact MemC.new wr [.int .u8 (x.1.toNat : Int), .int .u8 (x.2.toNat : Int)] _
        rw [← hw2]
        have D2 := Lib.hid (DK.out.keep hb)
        have B2 := Lib.hid (BK.out.trans (hb.mono BK.out.size))
        have X2 := Lib.hid hx2
        have HV : Hid (p < wr.heap.size ∧ q < wr.heap.size ∧ ∀ g, vv.ownBlock = some g → g < wr.heap.size) := Lib.hid ⟨DK.out.lt.1, DK.out.lt.2, VL.out⟩
        obtain ⟨q8, hq8⟩ : ∃ y, y = wr.heap.size := ⟨_, rfl⟩
        rw [← hq8] at X2 HV ⊢
        clear hb hx2 hw2 hq8 DK BK VL CK hp0 hp1
        go_wp2_with fail
        refine (read_no _ ⟨_, _, D2.out⟩ 16 (.inl HDN.out)).mono ?_
        rintro e w' ⟨rfl, rfl⟩
        rw [HRE.out]
        go_wp2_with fail
        refine (down_any _ ⟨_, _, D2.out⟩).mono ?_
        rintro e w' ⟨rfl, rfl⟩
        rw [HDN.out]
        go_wp2_with fail
        refine (filled_any 0 _).mono ?_
        rintro e w3 ⟨gz, rfl, _, _, hb⟩
        have D3 := Lib.hid (D2.out.keep hb)
        have B3 := Lib.hid (B2.out.trans (hb.mono B2.out.size))
        have X := Lib.hid (X2.out.keep hb)
        clear hb D2 B2 X2
        go_wp2_with fail
        refine (write_no _ ⟨_, _, D3.out⟩ 16 _ 128 128 (.inl HDN.out)).mono ?_
        rintro e w' ⟨rfl, rfl⟩
        rw [HWE.out]
        go_upto_region 14 with fail
        have bd : Below w3.heap.size w3 w3.drew := (Below.refl w3.heap.size w3).drew
        have DD := Lib.hid (D3.out.keep bd)
        have XD := Lib.hid (X.out.keep bd)
        have BD := Lib.hid (B3.out.trans (bd.mono B3.out.size))
        obtain ⟨wd, hwd⟩ : ∃ W : World, W = w3.drew := ⟨_, rfl⟩
        rw [← hwd] at DD XD BD
        have tx : (x.1.toNat : Int).tmod 16 = ((x.1.toNat % 16 : Nat) : Int) := by rw [Int.tmod_eq_emod_of_nonneg (by omega)]; rfl
        have wx : IntKind.i64.wrap ((x.1.toNat % 16 : Nat) : Int) = ((x.1.toNat % 16 : Nat) : Int) := IntWalk.i64_in _ (by omega)
        have wx2 : IntKind.i64.wrap ((x.1.toNat : Int) % 16) = (x.1.toNat : Int) % 16 := IntWalk.i64_in _ (by omega)
        have wu : IntKind.u8.wrap ((x.1.toNat % 16 : Nat) : Int) = ((x.1.toNat % 16 : Nat) : Int) := IntWalk.u8_in _ (by omega)
        have hS : wd.cell? ⟨q8, 0, none⟩ = some (.int .u8 (x.1.toNat : Int)) ∧ wd.cell? ⟨q8, 1, none⟩ = some (.int .u8 (x.2.toNat : Int)) := ⟨(XD.out.get 0 _ rfl).1, (XD.out.get 1 _ rfl).1⟩
        refine wp_region_held_drew (S := fun w' => w'.cell? ⟨q8, 0, none⟩ = some (.int .u8 (x.1.toNat : Int)) ∧ w'.cell? ⟨q8, 1, none⟩ = some (.int .u8 (x.2.toNat : Int))) (by kernel_rfl) (by rw [← hwd]; exact hS) (fun hHeld => ?_)
        rw [← hwd] at hHeld ⊢
        clear hwd bd hS D3 B3 X
        refine wpAnyH_take (i := 0) (v := .pointer (some ⟨p, 0, none⟩)) rfl (by kernel_rfl) (by kernel_rfl) (by kernel_rfl) (fun _ _ _ h => h) (Or.inl ⟨by kernel_rfl, fun w _ => by go_simp⟩) hHeld ?_
        try simp only [Act.put, List.getElem_toArray, List.getElem_cons_succ, List.getElem_cons_zero, List.setIfInBounds_toArray, List.set_cons_zero, List.set_cons_succ]
        refine wpAnyH_take (i := 1) (v := .pointer (some ⟨q8, 0, none⟩)) rfl (by kernel_rfl) (by kernel_rfl) (by kernel_rfl) (fun _ _ _ h => h) (Or.inl ⟨by kernel_rfl, fun w _ => by go_simp⟩) hHeld ?_
        try simp only [Act.put, List.getElem_toArray, List.getElem_cons_succ, List.getElem_cons_zero, List.setIfInBounds_toArray, List.set_cons_zero, List.set_cons_succ]
        refine wpAnyH_take (i := 2) (v := .int .u8 (x.1.toNat : Int)) rfl (by kernel_rfl) (by kernel_rfl) (by kernel_rfl) (fun _ _ _ h => h) (Or.inl ⟨by kernel_rfl, fun w h => by have hc := h.1; go_simp⟩) hHeld ?_
        try simp only [Act.put, List.getElem_toArray, List.getElem_cons_succ, List.getElem_cons_zero, List.setIfInBounds_toArray, List.set_cons_zero, List.set_cons_succ]
        refine wpAnyH_take (i := 3) (v := .int .u8 ((x.1.toNat % 16 : Nat) : Int)) rfl (by kernel_rfl) (by kernel_rfl) (by kernel_rfl) (fun _ _ _ h => h) (Or.inl ⟨by kernel_rfl, fun w _ => by go_simp⟩) hHeld ?_
        try simp only [Act.put, List.getElem_toArray, List.getElem_cons_succ, List.getElem_cons_zero, List.setIfInBounds_toArray, List.set_cons_zero, List.set_cons_succ]
        refine wpAnyH_take (i := 4) (v := .int .i64 ((x.1.toNat % 16 : Nat) : Int)) rfl (by kernel_rfl) (by kernel_rfl) (by kernel_rfl) (fun _ _ _ h => h) (Or.inl ⟨by kernel_rfl, fun w _ => by go_simp⟩) hHeld ?_
        try simp only [Act.put, List.getElem_toArray, List.getElem_cons_succ, List.getElem_cons_zero, List.setIfInBounds_toArray, List.set_cons_zero, List.set_cons_succ]
        refine wpAnyH_take (i := 5) (v := .pointer (some ⟨q8, 1, none⟩)) rfl (by kernel_rfl) (by kernel_rfl) (by kernel_rfl) (fun _ _ _ h => h) (Or.inl ⟨by kernel_rfl, fun w _ => by go_simp⟩) hHeld ?_
        try simp only [Act.put, List.getElem_toArray, List.getElem_cons_succ, List.getElem_cons_zero, List.setIfInBounds_toArray, List.set_cons_zero, List.set_cons_succ]
        refine wpAnyH_take (i := 6) (v := .int .u8 (x.2.toNat : Int)) rfl (by kernel_rfl) (by kernel_rfl) (by kernel_rfl) (fun _ _ _ h => h) (Or.inl ⟨by kernel_rfl, fun w h => by have hc := h.2; go_simp⟩) hHeld ?_
        try simp only [Act.put, List.getElem_toArray, List.getElem_cons_succ, List.getElem_cons_zero, List.setIfInBounds_toArray, List.set_cons_zero, List.set_cons_succ]
        refine wpAnyH_ready (rs := [7]) (by kernel_rfl) (by simp) ?_
        refine AllReadyH.cons rfl (fun K hK => ?_) AllReadyH.nil
        go_simp
        go_at_call 19
        refine (filled_any x.2 _).mono ?_
        rintro e we ⟨gf, rfl, hgf, hmf, hbf⟩
        have hin := DD.out.keep hbf
        have XE := XD.out.keep hbf
        have BE := Lib.hid (BD.out.trans (hbf.mono BD.out.size))
        refine hK.out _ _ ⟨(XE.get 0 _ rfl).1, (XE.get 1 _ rfl).1⟩ (fun hHeld => ?_)
        try simp only [Act.put, List.getElem_toArray, List.getElem_cons_succ, List.getElem_cons_zero, List.setIfInBounds_toArray, List.set_cons_zero, List.set_cons_succ]
        have hpl := DD.out.lt.1
        have hnt : ¬ Tight we p q vv q8 := fun h => by
          have hv := HV.out
          have hxl := XE.at_.lt
          rcases h with h | h | h | h
          · omega
          · omega
          · have := hv.2.2 _ h; omega
          · omega
        refine wpAnyH_ready (rs := [8]) (by kernel_rfl) (by simp) ?_
        refine AllReadyH.cons rfl (fun K hK => ?_) AllReadyH.nil
        go_simp
        go_at_call 18
        refine (write_any _ hin.tight ((x.1.toNat % 16 : Nat) : Int) (some ⟨gf, 0, none⟩) 128 128 (List.replicate 128 x.2) hmf.reads (fun a e => by injection e with e; rw [← e]; exact Nat.ne_of_gt (Nat.lt_of_lt_of_le hpl hgf)) (by rw [HS.out.wl]; omega)).mono ?_
        rintro e wf ⟨rfl, hdf, htf⟩
        rw [HWV.out]
        have XF := XE.turn htf hnt
        have D4 := Lib.hid (hdf.mono hin.tight_le)
        have B4 := Lib.hid (BE.out.trans ((htf.mono hin.tight_le).below HFW.out BE.out.size))
        have X4 := Lib.hid XF
        refine hK.out _ _ ⟨(XF.get 0 _ rfl).1, (XF.get 1 _ rfl).1⟩ (fun hHeld => ?_)
        try simp only [Act.put, List.getElem_toArray, List.getElem_cons_succ, List.getElem_cons_zero, List.setIfInBounds_toArray, List.set_cons_zero, List.set_cons_succ]
        clear hnt hdf htf XF XE BE hmf hgf hbf hin hpl DD XD BD
        refine wpAnyH_take (i := 9) (v := .int .i64 20) rfl (by kernel_rfl) (by kernel_rfl) (by kernel_rfl) (fun _ _ _ h => h) (Or.inl ⟨by kernel_rfl, fun w _ => by go_simp⟩) hHeld ?_
        try simp only [Act.put, List.getElem_toArray, List.getElem_cons_succ, List.getElem_cons_zero, List.setIfInBounds_toArray, List.set_cons_zero, List.set_cons_succ]
        refine wpAnyH_done (by kernel_rfl) ?_ _
        have D5 : Hid (DiskAt (fun b => w.heap.size ≤ b) wf p q (armK l many (k + 1))) := Lib.hid (by rw [HST.out]; exact D4.out)
        clear hHeld tx wx wx2 wu HV X4 D4 HWV
        go_wp2_with fail
        refine (down_any _ D5.out).mono ?_
        rintro e w' ⟨rfl, rfl⟩
        rw [HD2.out]
        go_wp2_with fail
        refine (down_any _ D5.out).mono ?_
        rintro e w' ⟨rfl, rfl⟩
        rw [HD2.out]
        go_wp2_with fail
        go_roundw
        case rel => exact ⟨k + 1, by omega, by go_num, by rw [← HDK.out], D5.out, B4.out⟩
        case measure => simp [intOf]; omega
    · obtain rfl : m = k := by omega
      rcases (show many < m ∨ m ≤ many by omega) with hcase | hcase
      · have hdn : (armK l many m).down = true := by rw [HS.out.down]; simp; omega
        have HDN := Lib.hid hdn
        have H16 := Lib.hid HS.out.n
        have HOK := Lib.hid HS.out.ok
        have HWL := Lib.hid HS.out.wl
        obtain ⟨dk, hdk⟩ : ∃ dk : Nat, dk = min m many := ⟨_, rfl⟩
        have t4 : min (many : Int) (m : Int) = (dk : Int) := by omega
        rw [← hdk] at HWL ⊢
        have D3 : Hid (DiskAt (fun b => w.heap.size ≤ b) wr p q (armK l many m)) := Lib.hid ⟨_, _, DK.out⟩
        have hgt : ((many : Int) < (m : Int)) = True := by exact eq_true (by omega)
        clear hdn hcase hdk DK VL CK HC HS
        go_wp2_with fail
        refine (cached_any _ D3.out).mono ?_
        rintro e w4 ⟨v, rfl, hown, hb⟩
        rw [HWL.out] at hown
        obtain ⟨A', c', rfl, _, hcc, hcm'⟩ := own_readsI hown
        have D4 := Lib.hid (D3.out.keep hb)
        have B4 := Lib.hid (BK.out.trans (hb.mono BK.out.size))
        clear hb hown D3 BK
        go_wp2_with fail
        refine (down_any _ D4.out).mono ?_
        rintro e w' ⟨rfl, rfl⟩
        rw [HDN.out]
        go_wp2_with fail
        refine (down_any _ D4.out).mono ?_
        rintro e w' ⟨rfl, rfl⟩
        rw [HDN.out]
        go_wp2_with fail
        refine (read_no _ D4.out 0 (.inl HDN.out)).mono ?_
        rintro e w' ⟨rfl, rfl⟩
        rw [show readE (armK l many m) 0 = 20 by unfold readE; rw [HDN.out]; rfl]
        go_wp2_with fail
        refine (flush_down _ D4.out HDN.out).mono ?_
        rintro e w' ⟨rfl, rfl⟩
        go_wp2_with fail
        refine (arm_any _ D4.out 5 (by decide) (by decide)).mono ?_
        rintro e w5 ⟨rfl, hd, ht⟩
        rw [show armE (armK l many m) 5 = 20 by unfold armE; rw [HDN.out]; rfl]
        rw [show armed (armK l many m) 5 = armK l many m by unfold armed; rw [if_pos HDN.out]] at hd
        have D5 := Lib.hid hd
        have B5 := Lib.hid (B4.out.trans (ht.below HFW.out B4.out.size))
        clear hd ht D4 B4
        go_wp2_with fail
        refine (crash_any _ D5.out none 0 0 [] (-1) 0 rfl (by simp [maxLen]) (Cells.nil _ _) (fun a e => by cases e)).mono ?_
        rintro e w6 ⟨rfl, hd, ht⟩
        rw [show crashE 0 = 0 from rfl]
        have HLV := Lib.hid (crash_live HOK.out H16.out)
        have D6 := Lib.hid hd
        have B6 := Lib.hid (B5.out.trans (ht.below HFW.out B5.out.size))
        generalize crashed (armK l many m) [] (-1) 0 = E at *
        clear hd ht D5 B5
        go_wp2_with fail
        refine (down_any _ D6.out).mono ?_
        rintro e w' ⟨rfl, rfl⟩
        rw [HLV.out.up]
        go_wp2_with fail
        go_loopw [152] (fun i wr => ∃ k : Nat, k ≤ 50 ∧ i = .int .i64 (k : Int) ∧ (∃ E, Live E 0 ∧ DiskAt (fun b => w.heap.size ≤ b) wr p q E) ∧ Below w.heap.size w wr) (fun i _ => 50 - (intOf i).toNat)
        case atStart => exact ⟨0, Nat.zero_le _, rfl, ⟨E, HLV.out, D6.out⟩, B6.out⟩
        case round =>
          obtain ⟨k, hk, rfl, ⟨E2, hL, hD⟩, hb⟩ := hrel
          have HL2 := Lib.hid hL
          have D7 := Lib.hid hD
          have B7 := Lib.hid hb
          clear hL hD hb D6 B6 HLV
          by_cases hlt : k < 50
          · have k0 : (0 : Int) ≤ (k : Int) := by omega
            have k1 : (k : Int) < 50 := by omega
            have kw : IntKind.i64.wrap ((k : Int) + 1) = (k : Int) + 1 := IntWalk.i64_in _ (by omega)
            go_wp2_with fail
            refine (flush_any _ D7.out).mono ?_
            rintro e w8 ⟨rfl, hd, ht⟩
            rw [live_flushE HL2.out]
            have HL3 := Lib.hid HL2.out.flush
            have D8 := Lib.hid hd
            have B8 := Lib.hid (B7.out.trans (ht.below HFW.out B7.out.size))
            clear hd ht
            go_wp2_with fail
            go_roundw
            case rel => exact ⟨k + 1, by omega, by go_num, ⟨_, HL3.out, D8.out⟩, B8.out⟩
            case measure => simp [intOf]; omega
          · obtain rfl : k = 50 := by omega
            rw [show ((50 : Nat) : Int) = 50 from rfl]
            go_wp2_with fail
            refine (awake_any _).mono ?_
            rintro e wz ⟨rfl, hbz⟩
            have BZ := Lib.hid (B7.out.trans (hbz.mono B7.out.size))
            clear hbz
            go_wp2_with fail
            go_ret
            exact ⟨rfl, BZ.out⟩
      · have hdn : (armK l many m).down = false := by rw [HS.out.down]; simp; omega
        have HDN := Lib.hid hdn
        have H16 := Lib.hid HS.out.n
        have HOK := Lib.hid HS.out.ok
        have HWL := Lib.hid HS.out.wl
        obtain ⟨dk, hdk⟩ : ∃ dk : Nat, dk = min m many := ⟨_, rfl⟩
        have t4 : min (many : Int) (m : Int) = (dk : Int) := by omega
        rw [← hdk] at HWL ⊢
        have D3 : Hid (DiskAt (fun b => w.heap.size ≤ b) wr p q (armK l many m)) := Lib.hid ⟨_, _, DK.out⟩
        have hgt : ((many : Int) < (m : Int)) = False := by exact eq_false (by omega)
        clear hdn hcase hdk DK VL CK HC HS
        go_wp2_with fail
        refine (cached_any _ D3.out).mono ?_
        rintro e w4 ⟨v, rfl, hown, hb⟩
        rw [HWL.out] at hown
        obtain ⟨A', c', rfl, _, hcc, hcm'⟩ := own_readsI hown
        have D4 := Lib.hid (D3.out.keep hb)
        have B4 := Lib.hid (BK.out.trans (hb.mono BK.out.size))
        clear hb hown D3 BK
        go_wp2_with fail
        refine (down_any _ D4.out).mono ?_
        rintro e w' ⟨rfl, rfl⟩
        rw [HDN.out]
        go_wp2_with fail
        refine (down_any _ D4.out).mono ?_
        rintro e w' ⟨rfl, rfl⟩
        rw [HDN.out]
        go_wp2_with fail
        refine (crash_any _ D4.out none 0 0 [] (-1) 0 rfl (by simp [maxLen]) (Cells.nil _ _) (fun a e => by cases e)).mono ?_
        rintro e w6 ⟨rfl, hd, ht⟩
        rw [show crashE 0 = 0 from rfl]
        have HLV := Lib.hid (crash_live HOK.out H16.out)
        have D6 := Lib.hid hd
        have B6 := Lib.hid (B4.out.trans (ht.below HFW.out B4.out.size))
        generalize crashed (armK l many m) [] (-1) 0 = E at *
        clear hd ht D4 B4
        go_wp2_with fail
        refine (down_any _ D6.out).mono ?_
        rintro e w' ⟨rfl, rfl⟩
        rw [HLV.out.up]
        go_wp2_with fail
        go_loopw [152] (fun i wr => ∃ k : Nat, k ≤ 50 ∧ i = .int .i64 (k : Int) ∧ (∃ E, Live E 0 ∧ DiskAt (fun b => w.heap.size ≤ b) wr p q E) ∧ Below w.heap.size w wr) (fun i _ => 50 - (intOf i).toNat)
        case atStart => exact ⟨0, Nat.zero_le _, rfl, ⟨E, HLV.out, D6.out⟩, B6.out⟩
        case round =>
          obtain ⟨k, hk, rfl, ⟨E2, hL, hD⟩, hb⟩ := hrel
          have HL2 := Lib.hid hL
          have D7 := Lib.hid hD
          have B7 := Lib.hid hb
          clear hL hD hb D6 B6 HLV
          by_cases hlt : k < 50
          · have k0 : (0 : Int) ≤ (k : Int) := by omega
            have k1 : (k : Int) < 50 := by omega
            have kw : IntKind.i64.wrap ((k : Int) + 1) = (k : Int) + 1 := IntWalk.i64_in _ (by omega)
            go_wp2_with fail
            refine (flush_any _ D7.out).mono ?_
            rintro e w8 ⟨rfl, hd, ht⟩
            rw [live_flushE HL2.out]
            have HL3 := Lib.hid HL2.out.flush
            have D8 := Lib.hid hd
            have B8 := Lib.hid (B7.out.trans (ht.below HFW.out B7.out.size))
            clear hd ht
            go_wp2_with fail
            go_roundw
            case rel => exact ⟨k + 1, by omega, by go_num, ⟨_, HL3.out, D8.out⟩, B8.out⟩
            case measure => simp [intOf]; omega
          · obtain rfl : k = 50 := by omega
            rw [show ((50 : Nat) : Int) = 50 from rfl]
            go_wp2_with fail
            refine (awake_any _).mono ?_
            rintro e wz ⟨rfl, hbz⟩
            have BZ := Lib.hid (B7.out.trans (hbz.mono B7.out.size))
            clear hbz
            go_wp2_with fail
            go_ret
            exact ⟨rfl, BZ.out⟩

theorem lawArmed (y : UInt8) (A : Option Addr) (n c : Nat) (l : List (UInt8 × UInt8)) (w : World) (hl : l.length = n) (hc : Cells w A (putcells l)) (hnc : n ≤ c) (hcm : c ≤ maxLen) :
    Calls Try.prog 4 #[.int .u8 (y.toNat : Int), .slice A n c] w fun e w' => e = .returned (.bool true) ∧ Below w.heap.size w w' :=
  armed_in y A n c l w _ _ hl hc hnc hcm rfl rfl

end Go.Proofs.Ytdnhlpddnbholaa
