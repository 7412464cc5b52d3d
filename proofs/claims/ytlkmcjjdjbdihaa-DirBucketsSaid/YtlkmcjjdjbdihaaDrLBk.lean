/-
  DirBuckets: the walk.
-/
import Derived.Test.YtlkmcjjdjbdihaaDrBkP
import Derived.Test.YtlkmcjjdjbdihaaDrLOw
namespace Go.Proofs.Ytlkmcjjdjbdihaa
open Go.RowKit Go.Maps
set_option linter.unusedVariables false
set_option linter.unusedSimpArgs false
attribute [local go_sem ↓] Go.wp_at_zero Go.wp_at_succ

theorem Only.dN {w w' : World} {P g : Nat} (h : Only w w' P g) (k : Nat) : Only w (w'.drewN k) P g := ⟨h.os, h.tape, h.output, h.size, h.other⟩
theorem ilist_made {w : World} {g n : Nat} {e : TypeId} {base : Nat} (h : w.ownsRow base e 1 (.slice (some ⟨g, 0, none⟩) n n) n (madeCells #[Value.int .i64 0] n).toList) : MemC w g 0 (icells (List.replicate n 0)) := by
  have e1 : (madeCells #[Value.int .i64 0] n).toList = icells (List.replicate n 0) := by
    rw [toList_madeCells_one]
    simp [icells]
  rw [e1] at h
  exact (MemC.of_ownC h).1

set_option maxHeartbeats 4000000 in
set_option maxRecDepth 100000 in
theorem bks_bad (d : Dir) (A : Option Addr) (n c X Y : Nat) (w : World) (h : ReadsW w A n d.slots) (hn : n ≤ maxLen) (hr : rightB d = false) :
    Calls Try.prog 4 #[dval d A n c, .int .u64 (X : Int), .int .u64 (Y : Int)] w fun e w' => e = .returned (.bool true) ∧ Below w.heap.size w w' := by
  have K1 := Lib.hid hr
  have HR := Lib.hid h; clear h hr
  obtain ⟨W0, hW0⟩ : ∃ W0 : World, W0 = w.alloc (.cells #[.int .u8 (d.depth.toNat : Int), .slice A n c] 24) := ⟨_, rfl⟩
  have B0 : Hid (Below w.heap.size w W0) := Lib.hid (by rw [hW0]; exact (Below.refl _ w).alloc (Nat.le_refl _) _)
  have S0 : Hid (BoxD W0 w.heap.size d A n c) := Lib.hid (by rw [hW0]; exact BoxD.new w d A n c HR.out)
  have HW := Lib.hid hW0; clear hW0
  obtain ⟨a0, a1⟩ := S0.out.cells
  unfold dval
  go_enter Try.func4, Try.ntmps4
  go_upto_region 1 with fail
  rw [← HW.out]
  clear HW
  go_wp2_with fail
  rw [dval_eq]
  refine (right_any d A n c _ S0.out.rd hn).mono ?_
  rintro e w1 ⟨rfl, hb⟩
  rw [K1.out]
  have B1 := Lib.hid (B0.out.trans (hb.mono B0.out.size))
  clear hb a0 a1
  go_wp2_with fail
  refine (awake_any _).mono ?_
  rintro e w4 ⟨rfl, hb⟩
  have B4 := Lib.hid (B1.out.trans (hb.mono B1.out.size))
  go_wp2_with fail
  go_ret
  exact ⟨rfl, B4.out⟩

theorem inN_le2 (p m t : Nat) : inN p m t ≤ t := by unfold inN; omega
theorem slots_cell (p z m j : Nat) (h : j < m) : (icells (slotsR (p, z) m))[j]? = some (.int .i64 ((p + j : Nat) : Int)) := by
  rw [List.getElem?_eq_getElem (by rw [icells_length, slotsR_length]; exact h), icells_get (by rw [slotsR_length]; exact h), slotsR_get _ _ _ _ h]

set_option maxHeartbeats 16000000 in
set_option maxRecDepth 100000 in
theorem bks_good (d : Dir) (bd od n c a b : Nat) (x y : UInt64) (kf pf mf : Nat → Nat) (w : World) (h : ReadsW w (some ⟨bd, od, none⟩) n d.slots) (K1 : Hid (rightB d = true)) (hR : Hid (RightD d d.depth.toNat)) (HBk : Hid (Bks d n kf pf mf)) (hln : Hid (n = 2 ^ d.depth.toNat)) (hd8 : d.depth.toNat ≤ 8) (hn256 : n ≤ 256)
    (Ha : Hid (slotOf d.depth.toNat x = a)) (Hb : Hid (slotOf d.depth.toNat y = b)) (ha : a < n) (hb : b < n) (HAL : Hid ((at_ d.slots a = at_ d.slots b) ↔ x.toNat / 2 ^ (64 - kf a) = y.toNat / 2 ^ (64 - kf a))) :
    Calls Try.prog 4 #[dval d (some ⟨bd, od, none⟩) n c, .int .u64 (x.toNat : Int), .int .u64 (y.toNat : Int)] w fun e w' => e = .returned (.bool true) ∧ Below w.heap.size w w' := by
  have hn : n ≤ maxLen := Nat.le_trans hn256 (by decide)
  have HL := Lib.hid h.1
  have HA := Lib.hid ha
  have HB := Lib.hid hb
  have Hn2 := Lib.hid hn256
  have HR := Lib.hid h; clear h
  have c1 : ¬ (a : Int) < 0 := by omega
  have c2 : ¬ (b : Int) < 0 := by omega
  have c3 : ¬ (n : Int) ≤ (a : Int) := by omega
  have c4 : ¬ (n : Int) ≤ (b : Int) := by omega
  have c5 : decide (n ≤ a) = false := decide_eq_false (by omega)
  have c6 : decide (n ≤ b) = false := decide_eq_false (by omega)
  have c7 : decide ((a : Int) < 0) = false := decide_eq_false c1
  have c8 : decide ((b : Int) < 0) = false := decide_eq_false c2
  obtain ⟨i0, hinf, hz0, hz1, hz2⟩ := info_parts intinfo
  obtain ⟨W0, hW0⟩ : ∃ W0 : World, W0 = w.alloc (.cells #[.int .u8 (d.depth.toNat : Int), .slice (some ⟨bd, od, none⟩) n c] 24) := ⟨_, rfl⟩
  have B0 : Hid (Below w.heap.size w W0) := Lib.hid (by rw [hW0]; exact (Below.refl _ w).alloc (Nat.le_refl _) _)
  have S0 : Hid (BoxD W0 w.heap.size d (some ⟨bd, od, none⟩) n c) := Lib.hid (by rw [hW0]; exact BoxD.new w d _ n c HR.out)
  have HW := Lib.hid hW0; clear hW0
  obtain ⟨a0, a1⟩ := S0.out.cells
  unfold dval
  go_enter Try.func4, Try.ntmps4
  go_upto_region 1 with fail
  rw [← HW.out]
  clear HW
  go_wp2_with fail
  rw [dval_eq]
  refine (right_any d _ n c _ S0.out.rd hn).mono ?_
  rintro e w1 ⟨rfl, hb⟩
  rw [K1.out]
  have B1 := Lib.hid (B0.out.trans (hb.mono B0.out.size))
  have S1 := Lib.hid (S0.out.keep hb)
  clear hb a0 a1
  obtain ⟨a0, a1⟩ := S1.out.cells
  unfold dval
  go_wp2_with fail
  rw [dval_eq]
  refine (at_any d _ n c x _ S1.out.rd hn).mono ?_
  rintro e w2 ⟨rfl, hb⟩
  rw [K1.out, Ha.out, if_pos rfl, if_pos rfl]
  have B2 := Lib.hid (B1.out.trans (hb.mono B1.out.size))
  have S2 := Lib.hid (S1.out.keep hb)
  clear hb a0 a1
  obtain ⟨a0, a1⟩ := S2.out.cells
  unfold dval
  go_wp2_with fail
  rw [dval_eq]
  refine (at_any d _ n c y _ S2.out.rd hn).mono ?_
  rintro e w3 ⟨rfl, hb⟩
  rw [K1.out, Hb.out, if_pos rfl, if_pos rfl]
  have B3 := Lib.hid (B2.out.trans (hb.mono B2.out.size))
  have S3 := Lib.hid (S2.out.keep hb)
  clear hb a0 a1
  obtain ⟨a0, a1⟩ := S3.out.cells
  have hm0 : (0 : Int) ≤ (n : Int) := by omega
  unfold dval
  go_wp2_with (at_make; (refine wpList_make_full _ rfl _ _ 34 rfl w3.heap.size 3 i0 (.int .i64 0) 1 Try.underlying34 hinf hz0 hz1 .i64 .i64 _ _ n rfl rfl rfl rfl (by rw [hz2]; omega) (by simp only [maxLen]; omega) (Nat.le_refl _) ?_))
  intro w4 hown hgrow
  have hb4 : Below w3.heap.size w3 w4 := (Below.refl _ _).grown hgrow (Nat.le_refl _) (by intro k hk; cases hk)
  have hmem := ilist_made hown
  rw [← cntL_zero n pf mf] at hmem
  have HM := Lib.hid hmem
  have HB4 := Lib.hid hb4
  clear hown hgrow hb4 hmem a0 a1 c1 c2 c3 c4 c5 c6 c7 c8
  obtain ⟨a0, a1⟩ := (S3.out.keep HB4.out).cells
  obtain ⟨g, hg⟩ : ∃ g, g = w3.heap.size := ⟨_, rfl⟩
  rw [← hg] at HM HB4 ⊢
  have HG := Lib.hid hg
  clear hg
  go_wp2_with fail
  go_loopw [75] (fun i wr => ∃ t : Nat, t ≤ n ∧ i = .int .i64 (t : Int) ∧ MemC wr g 0 (icells (cntL n pf mf t)) ∧ Below g w3 wr) (fun i _ => n - (intOf i).toNat)
  case atStart => exact ⟨0, Nat.zero_le _, rfl, HM.out, HB4.out⟩
  case round =>
    obtain ⟨t, ht, rfl, hmem, hbl⟩ := hrel
    have HMt := Lib.hid hmem; clear hmem
    have HBt := Lib.hid hbl; clear hbl
    have St := Lib.hid (S3.out.keep (by rw [HG.out] at HBt; exact HBt.out))
    clear a0 a1
    obtain ⟨a0, a1⟩ := St.out.cells
    by_cases hlt : t < n
    · have t1 : (t : Int) < (n : Int) := by omega
      have t0 : (0 : Int) ≤ (t : Int) := by omega
      have HT := Lib.hid hlt
      go_wp2_with fail
      rw [dval_eq]
      refine (Bucket_any d _ n c (t : Int) _ St.out.rd hn).mono ?_
      rintro e w6 ⟨v6, rfl, hown, hb⟩
      rw [HBk.out.l t hlt, slotsR_length] at hown
      rw [HBk.out.e t hlt]
      have hmpos : 0 < mf t := by rw [HBk.out.m_eq t hlt]; exact pow_pos2 _
      have hpm := HBk.out.le t hlt
      have hkl := HBk.out.k_le t hlt
      have hme := HBk.out.m_eq t hlt
      have hrow : ∃ g6 c6, v6 = .slice (some ⟨g6, 0, none⟩) (mf t) c6 ∧ wr.heap.size ≤ g6 ∧ MemC w6 g6 0 (icells (slotsR (pf t, pf t + mf t) (mf t))) := by
        rcases hown.2 with ⟨_, h3⟩ | ⟨g6, cap, cur, e1, hg, hh, _⟩
        · omega
        · rw [e1] at hown
          exact ⟨g6, cap, e1, hg, (MemC.of_ownC hown).1⟩
      obtain ⟨g6, c6, rfl, hg6, mg6⟩ := hrow
      have B6 := Lib.hid hb
      have S6 := Lib.hid (St.out.keep hb)
      have HM6 := Lib.hid (HMt.out.keep hb)
      have ML6 := Lib.hid mg6
      have hgl : g < wr.heap.size := HMt.out.at_.lt
      have HG6 : Hid (g6 ≠ g) := Lib.hid (by omega)
      obtain ⟨P, hP⟩ : ∃ P, P = pf t := ⟨_, rfl⟩
      obtain ⟨m, hm⟩ : ∃ m, m = mf t := ⟨_, rfl⟩
      obtain ⟨k, hk⟩ : ∃ k, k = kf t := ⟨_, rfl⟩
      have HP := Lib.hid hP
      have HMm := Lib.hid hm
      have HKk := Lib.hid hk
      rw [← hm] at hmpos
      rw [← hP, ← hm] at hpm
      rw [← hk] at hkl
      rw [← hm, ← hk] at hme
      rw [← hm]
      have HPM := Lib.hid hpm
      have HME := Lib.hid hme
      have HKL := Lib.hid hkl
      clear hown hb mg6 hg6 hgl a0 a1 hP hm hk hpm hkl hme
      obtain ⟨a0, a1⟩ := S6.out.cells
      unfold dval
      go_wp2_with fail
      rw [dval_eq]
      refine (depth_ok d _ n c d.depth.toNat t (kf t) _ S6.out.rd hR.out (by rw [← hln.out]; exact HT.out) (by rw [← HKk.out]; exact HKL.out) (HBk.out.fit t HT.out)).mono ?_
      rintro e w7 ⟨rfl, hb⟩
      rw [← HKk.out]
      have B7 := Lib.hid (B6.out.trans (hb.mono B6.out.size))
      have S7 := Lib.hid (S6.out.keep hb)
      have HM7 := Lib.hid (HM6.out.keep hb)
      have ML7 := Lib.hid (ML6.out.keep hb)
      clear hb a0 a1
      obtain ⟨a0, a1⟩ := S7.out.cells
      obtain ⟨D, hD⟩ : ∃ D, D = d.depth.toNat := ⟨_, rfl⟩
      have HDD := Lib.hid hD
      rw [← hD] at a0
      have hkl := HKL.out
      rw [← hD] at hkl
      have k1 : ¬ (k : Int) < 0 := by omega
      have k2 : ¬ (D : Int) < (k : Int) := by omega
      have k3 : decide (D < k) = false := decide_eq_false (by omega)
      obtain ⟨E, hE⟩ : ∃ E, E = D - k := ⟨_, rfl⟩
      have k4 : (D : Int) - (k : Int) = (E : Int) := by omega
      have hE8 : E ≤ 8 := by omega
      have hD8 : D ≤ 8 := by omega
      have k5 : wrap64 ((2 : Int) ^ E) = (m : Int) := by rw [shl1 hE8, HME.out, ← hD, ← hE]
      clear hD hkl hE
      unfold dval
      go_upto_region 15 with fail
      rw [show (D : Int) = (d.depth.toNat : Int) by rw [HDD.out]] at a0
      clear k1 k2 k3 k4 k5
      have HB7 := Lib.hid (HBt.out.trans (B7.out.mono (Nat.le_of_lt HMt.out.at_.lt)))
      have Z7 : Hid (bd ≠ g ∧ w.heap.size ≠ g ∧ g6 < w7.heap.size) := Lib.hid ⟨by
        obtain ⟨b', o', e, hlt, _⟩ := S3.out.rd.getD HT.out
        injection e with e
        injection e with e _
        rw [← e, ← HG.out] at hlt
        omega, by have := S3.out.mem.at_.lt; rw [← HG.out] at this; omega, ML7.out.at_.lt⟩
      go_wp2_with fail
      go_loopw [120] (fun i wr' => ∃ j : Nat, j ≤ m ∧ i = .int .i64 (j : Int) ∧ MemC wr' g 0 (icells (cntM n pf mf t j)) ∧ Only w7 wr' g g) (fun i _ => m - (intOf i).toNat)
      case atStart => exact ⟨0, Nat.zero_le _, rfl, by rw [cntM_zero]; exact HM7.out, ⟨rfl, rfl, rfl, rfl, fun _ _ _ => rfl⟩⟩
      case round =>
        obtain ⟨j, hj, rfl, hmem, ho⟩ := hrel
        have HMj := Lib.hid hmem; clear hmem
        have HO := Lib.hid ho; clear ho
        clear a0 a1
        have HBj := Lib.hid (HB7.out.trans (HO.out.below (Nat.le_refl _) (Nat.le_refl _)))
        have Sj := Lib.hid (S3.out.keep (by rw [HG.out] at HBj; exact HBj.out))
        obtain ⟨a0, a1⟩ := Sj.out.cells
        by_cases hjm : j < m
        · have HJ := Lib.hid hjm
          have hm256 : m ≤ 256 := by have := HPM.out; omega
          have e1 : wr.cell? ⟨g6, j, none⟩ = some (.int .i64 ((P + j : Nat) : Int)) := (HO.out.cell HG6.out HG6.out).trans ((ML7.out.get j _ (by rw [HP.out]; exact slots_cell _ _ _ _ (by rw [← HMm.out]; exact hjm))).1)
          have hin : P + j < n := by have := HPM.out; omega
          have x1 := Sj.out.rd.at' hin
          have x2 := Sj.out.rd.at' HT.out
          rw [HBk.out.at_ t (P + j) HT.out (by rw [HP.out]; omega) (by rw [HP.out, ← HMm.out]; omega)] at x1
          obtain ⟨y1, y2⟩ := HMj.out.get (P + j) _ (by have := cntM_get n pf mf t j (by rw [← HP.out]; exact hin); rw [← HP.out] at this; exact this)
          have hle := inN_le2 (pf (P + j)) (mf (P + j)) t
          have hset := cntM_set n pf mf t j (by rw [← HP.out]; exact hin)
          rw [← HP.out] at hset
          have hm2 := HMj.out.setAt (P + j) (by rw [icells_length, cntM_length]; exact hin) (.int .i64 (((inN (pf (P + j)) (mf (P + j)) t : Nat) : Int) + 1))
          rw [show (icells (cntM n pf mf t j)).set (P + j) (.int .i64 (((inN (pf (P + j)) (mf (P + j)) t : Nat) : Int) + 1)) = icells ((cntM n pf mf t j).set (P + j) (((inN (pf (P + j)) (mf (P + j)) t : Nat) : Int) + 1)) by simp [icells, List.map_set], hset] at hm2
          clear hset
          obtain ⟨N, hN⟩ : ∃ N, N = inN (pf (P + j)) (mf (P + j)) t := ⟨_, rfl⟩
          rw [← hN] at y1 hle hm2
          obtain ⟨u, hu⟩ : ∃ u, u = (at_ d.slots t).toNat := ⟨_, rfl⟩
          rw [← hu] at x1 x2
          obtain ⟨q, hq⟩ : ∃ q, q = P + j := ⟨_, rfl⟩
          rw [← hq] at e1 hin x1 y1 y2 hm2
          have HMn := Lib.hid hm2
          have HO2 := Lib.hid (HO.out.trans (Only.set wr g g q (.int .i64 ((N : Int) + 1))))
          have wN := (wrap_small (n := N + 1) (by have := Hn2.out; omega)).2
          have wN2 : IntKind.i64.wrap ((N : Int) + 1) = (N : Int) + 1 := wN
          have HWN := Lib.hid wN2
          have q1 : ¬ (q : Int) < 0 := by omega
          have q2 : ¬ (n : Int) ≤ (q : Int) := by omega
          have q3 : decide (n ≤ q) = false := decide_eq_false (by omega)
          have q4 : (0 : Int) ≤ (q : Int) := by omega
          have q5 : (q : Int) < (n : Int) := by omega
          have j1 : (j : Int) < (m : Int) := by omega
          have j0 : (0 : Int) ≤ (j : Int) := by omega
          clear hN hu hq hle hm2 wN wN2 hin
          go_wp2_with fail
          go_quiet (fail)
          have wN2 := HWN.out
          go_wp2_with fail
          clear wN2
          go_roundw
          case rel => exact ⟨j + 1, HJ.out, by go_num, by first | exact HMn.out | exact HMn.out.drewN _, by first | exact HO2.out | exact HO2.out.dN _⟩
          case measure => have := HJ.out; simp [intOf]; omega
        · obtain rfl : m = j := by omega
          have HMf : Hid (MemC wr g 0 (icells (cntL n pf mf (t + 1)))) := Lib.hid (by
            have h1 := HMj.out
            have h2 := cntM_all n pf mf t (fun i hi => HBk.out.sym t i HT.out hi)
            rw [← HMm.out] at h2
            rw [h2] at h1
            exact h1)
          have j1 : ¬ (m : Int) < (m : Int) := by omega
          by_cases hta : t = a
          · subst hta
            have ta : ((t : Int) == (t : Int)) = true := beq_self_eq_true _
            have x1 := Sj.out.rd.at' HA.out
            have x2 := Sj.out.rd.at' HB.out
            have i1 : (0 : Int) ≤ (t : Int) := by omega
            have i2 : (t : Int) < (n : Int) := by omega
            have i3 : (0 : Int) ≤ (b : Int) := by omega
            have i4 : (b : Int) < (n : Int) := by have := HB.out; omega
            have hx := UInt64.toNat_lt x
            have hy := UInt64.toNat_lt y
            have hal := HAL.out
            rw [← HKk.out] at hal
            have hk8 : k ≤ 8 := by have := HKL.out; omega
            by_cases hk0 : k = 0
            · have hab : at_ d.slots t = at_ d.slots b := hal.2 (by rw [hk0, Nat.div_eq_of_lt (by simpa using hx), Nat.div_eq_of_lt (by simpa using hy)])
              rw [← hab] at x2
              obtain ⟨u, hu⟩ : ∃ u, u = (at_ d.slots t).toNat := ⟨_, rfl⟩
              rw [← hu] at x1 x2
              have k1 : ((k : Int) == 0) = true := beq_iff_eq.2 (by omega)
              have k2 : (k == 0) = true := beq_iff_eq.2 hk0
              clear hal hab hu hk0 hx hy hk8
              go_upto_region 23 with fail
              go_quiet (fail)
              go_upto_region 24 with fail
              go_quiet (fail)
              go_wp2_with fail
              go_roundw
              case rel => exact ⟨t + 1, by omega, by go_num, by first | exact HMf.out | exact HMf.out.drewN _, by first | exact HBj.out | exact below_dN HBj.out _⟩
              case measure => simp [intOf]; omega
            · obtain ⟨E2, hE2⟩ : ∃ E, E = 64 - k := ⟨_, rfl⟩
              rw [← hE2] at hal
              have k1 : ((k : Int) == 0) = false := beq_eq_false_iff_ne.2 (by omega)
              have k2 : (k == 0) = false := beq_eq_false_iff_ne.2 hk0
              have k3 : (64 : Int) - (k : Int) = (E2 : Int) := by omega
              have hE64 : E2 ≤ 64 := by omega
              obtain ⟨U, hU⟩ : ∃ U, U = x.toNat / 2 ^ E2 := ⟨_, rfl⟩
              obtain ⟨V, hV⟩ : ∃ V, V = y.toNat / 2 ^ E2 := ⟨_, rfl⟩
              have k4 : (x.toNat : Int) / 2 ^ E2 = (U : Int) := by rw [hU]; simp
              have k5 : (y.toNat : Int) / 2 ^ E2 = (V : Int) := by rw [hV]; simp
              rw [← hU, ← hV] at hal
              obtain ⟨u, hu⟩ : ∃ u, u = (at_ d.slots t).toNat := ⟨_, rfl⟩
              obtain ⟨v, hv⟩ : ∃ v, v = (at_ d.slots b).toNat := ⟨_, rfl⟩
              rw [← hu] at x1
              rw [← hv] at x2
              have huv : u = v ↔ U = V := by rw [hu, hv, UInt16.toNat_inj]; exact hal
              clear hal hu hv hU hV hE2 hk0 hx hy hk8
              have ls := (wrap_small (n := k) (by omega)).2
              have k6 : IntKind.i64.wrap ((64 : Int) - (k : Int)) = (E2 : Int) := by rw [k3]; exact (wrap_small (n := E2) (by omega)).2
              clear ls
              by_cases hUV : U = V
              · obtain rfl := huv.2 hUV
                subst hUV
                clear huv
                go_upto_region 23 with fail
                go_quiet (fail)
                go_upto_region 24 with fail
                go_quiet (fail)
                go_wp2_with fail
                go_roundw
                case rel => exact ⟨t + 1, by omega, by go_num, by first | exact HMf.out | exact HMf.out.drewN _, by first | exact HBj.out | exact below_dN HBj.out _⟩
                case measure => simp [intOf]; omega
              · have hne : ¬ u = v := fun e => hUV (huv.1 e)
                have q1 : ((U : Int) == (V : Int)) = false := beq_eq_false_iff_ne.2 (fun e => hUV (Int.ofNat.inj e))
                have q2 : ((u : Int) == (v : Int)) = false := beq_eq_false_iff_ne.2 (fun e => hne (Int.ofNat.inj e))
                have q3 : (U == V) = false := beq_eq_false_iff_ne.2 hUV
                have q4 : (u == v) = false := beq_eq_false_iff_ne.2 hne
                clear huv hUV hne
                go_upto_region 23 with fail
                go_quiet (fail)
                go_upto_region 24 with fail
                go_quiet (fail)
                go_wp2_with fail
                go_roundw
                case rel => exact ⟨t + 1, by omega, by go_num, by first | exact HMf.out | exact HMf.out.drewN _, by first | exact HBj.out | exact below_dN HBj.out _⟩
                case measure => simp [intOf]; omega
          · have ta : ((t : Int) == (a : Int)) = false := beq_eq_false_iff_ne.2 (by omega)
            have ta2 : (t == a) = false := beq_eq_false_iff_ne.2 hta
            go_wp2_with fail
            go_roundw
            case rel => exact ⟨t + 1, by omega, by go_num, HMf.out, HBj.out⟩
            case measure => simp [intOf]; omega
    · obtain rfl : n = t := by omega
      clear a0 a1
      generalize wr = W9 at *
      have t1 : ¬ (n : Int) < (n : Int) := by omega
      go_wp2_with fail
      go_loopw [185] (fun i wr' => ∃ s : Nat, s ≤ n ∧ i = .int .i64 (s : Int) ∧ Below W9.heap.size W9 wr') (fun i _ => n - (intOf i).toNat)
      case atStart => exact ⟨0, Nat.zero_le _, rfl, Below.refl _ _⟩
      case round =>
        obtain ⟨s, hs, rfl, hbl⟩ := hrel
        have HBs := Lib.hid hbl; clear hbl
        by_cases hsn : s < n
        · obtain ⟨y1, _⟩ := (HMt.out.keep HBs.out).get s _ (cntL_get n pf mf n s hsn)
          rw [inN_all (HBk.out.le s hsn)] at y1
          have s0 : (0 : Int) ≤ (s : Int) := by omega
          have s1 : (s : Int) < (n : Int) := by omega
          have Ss := Lib.hid (St.out.keep HBs.out)
          obtain ⟨a0, a1⟩ := Ss.out.cells
          have HSN := Lib.hid hsn
          obtain ⟨M, hM⟩ : ∃ M, M = mf s := ⟨_, rfl⟩
          rw [← hM] at y1
          have HMM := Lib.hid hM
          clear hM
          go_wp2_with fail
          rw [dval_eq]
          refine (Bucket_any d _ n c (s : Int) _ Ss.out.rd hn).mono ?_
          rintro e w11 ⟨v11, rfl, hown, hb⟩
          rw [HBk.out.l s HSN.out, slotsR_length, ← HMM.out] at hown
          rw [HBk.out.e s HSN.out]
          obtain ⟨A11, c11, rfl, _, _, _⟩ := own_readsI hown
          have HBn := Lib.hid (HBs.out.trans (hb.mono HBs.out.size))
          have mm : ((M : Int) != (M : Int)) = false := by simp
          clear hown hb y1 a0 a1
          unfold dval
          go_wp2_with fail
          go_roundw
          case rel => exact ⟨s + 1, by omega, by go_num, HBn.out⟩
          case measure => simp [intOf]; omega
        · obtain rfl : n = s := by omega
          go_wp2_with fail
          refine (awake_any _).mono ?_
          rintro e w12 ⟨rfl, hb⟩
          have HBz := Lib.hid (HBs.out.trans (hb.mono HBs.out.size))
          have HBq := Lib.hid (HBt.out.trans (HBz.out.mono (Nat.le_of_lt HMt.out.at_.lt)))
          have HBf := Lib.hid (B3.out.trans (show Below w.heap.size w3 w12 from HBq.out.mono (by rw [HG.out]; exact B3.out.size)))
          go_wp2_with fail
          go_ret
          exact ⟨rfl, HBf.out⟩

theorem lawBuckets (d : Dir) (A : Option Addr) (n c : Nat) (x y : UInt64) (w : World) (h : ReadsW w A n d.slots) (hn : n ≤ maxLen) :
    Calls Try.prog 4 #[dval d A n c, .int .u64 (x.toNat : Int), .int .u64 (y.toNat : Int)] w fun e w' => e = .returned (.bool true) ∧ Below w.heap.size w w' := by
  cases hr : rightB d
  · exact bks_bad d A n c x.toNat y.toNat w h hn hr
  · have hR := rightB_iff.1 hr
    have hl : n = 2 ^ d.depth.toNat := by rw [← h.1, hR.len]
    have hp := pow_pos2 d.depth.toNat
    have hp8 := pow8 hR.le
    obtain ⟨bd, od, rfl, _, _⟩ := h.getD (k := 0) (by omega)
    obtain ⟨kf, pf, mf, hB⟩ := bks_of hR hl
    have ha : slotOf d.depth.toNat x < 2 ^ d.depth.toNat := slot_lt x.toNat _ (by simpa using UInt64.toNat_lt x) hR.le
    have hb : slotOf d.depth.toNat y < 2 ^ d.depth.toNat := slot_lt y.toNat _ (by simpa using UInt64.toNat_lt y) hR.le
    exact bks_good d bd od n c _ _ x y kf pf mf w h (Lib.hid hr) (Lib.hid hR) (Lib.hid hB) (Lib.hid hl) hR.le (by omega) (Lib.hid rfl) (Lib.hid rfl) (by omega) (by omega)
      (Lib.hid (alike_iff x y hR (hB.k_le _ (by omega)) ha hb (hB.fit _ (by omega))))

end Go.Proofs.Ytlkmcjjdjbdihaa
