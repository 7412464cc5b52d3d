/-
  dir.Point.
-/
import Derived.Test.YtlkmcjjdjbdihaaDrH
namespace Go.Proofs.Ytlkmcjjdjbdihaa
open Go.RowKit Go.Maps
set_option linter.unusedVariables false
attribute [local go_sem ↓] Go.wp_at_zero Go.wp_at_succ

/-- Slots of which some name another block. -/
def setRun (l : List UInt16) (p j : Nat) (b : UInt16) : List UInt16 := toldL (fun i => if p ≤ i ∧ i < p + j then b else at_ l i) l.length
theorem setRun_zero (l : List UInt16) (p : Nat) (b : UInt16) : setRun l p 0 b = l := by
  apply List.ext_getElem
  · simp [setRun, toldL]
  · intro i h1 h2
    simp only [setRun, toldL, List.getElem_map, List.getElem_range]
    rw [if_neg (by omega)]
    simp [at_, List.getD_eq_getElem?_getD, List.getElem?_eq_getElem h2]
theorem setRun_length (l : List UInt16) (p j : Nat) (b : UInt16) : (setRun l p j b).length = l.length := by simp [setRun, toldL]
theorem setRun_succ (l : List UInt16) (p j : Nat) (b : UInt16) (h : p + j < l.length) : (setRun l p j b).set (p + j) b = setRun l p (j + 1) b := by
  apply List.ext_getElem
  · simp [setRun, toldL]
  · intro i h1 h2
    rw [List.getElem_set]
    simp only [setRun, toldL, List.getElem_map, List.getElem_range]
    by_cases e : p + j = i
    · rw [if_pos e, if_pos (by omega)]
    · rw [if_neg e]
      by_cases h3 : p ≤ i ∧ i < p + j
      · rw [if_pos h3, if_pos (by omega)]
      · rw [if_neg h3, if_neg (by omega)]
theorem setRun_at (l : List UInt16) (p j i : Nat) (b : UInt16) (h : i < l.length) : at_ (setRun l p j b) i = if p ≤ i ∧ i < p + j then b else at_ l i := by
  simp [at_, setRun, toldL, List.getD_eq_getElem?_getD, h]

theorem alike_le {x D j : Nat} (hx : x < 2 ^ D) (hj : j ≤ D) : x / 2 ^ (D - j) * 2 ^ (D - j) + 2 ^ (D - j) ≤ 2 ^ D := by
  have h1 : x / 2 ^ (D - j) < 2 ^ j := Nat.div_lt_of_lt_mul (by rw [Nat.mul_comm, ← pow_split hj]; exact hx)
  have h2 := Nat.mul_le_mul_right (2 ^ (D - j)) h1
  rw [Nat.succ_mul, ← pow_split hj] at h2
  exact h2

def pointL (l : List UInt16) (s m : Nat) (b : UInt16) : List UInt16 := setRun l (s / m * m) m b
def pointD (d : Dir) (s k : Int) (b : UInt16) : Dir := ⟨d.depth, pointL d.slots s.toNat (2 ^ (d.depth.toNat - k.toNat)) b⟩
def PointOk (d : Dir) (s k : Int) (b : UInt16) : Prop := 0 ≤ s ∧ s < (d.slots.length : Int) ∧ 0 ≤ k ∧ k ≤ (d.depth.toNat : Int) ∧ okb b = true
instance (d : Dir) (s k : Int) (b : UInt16) : Decidable (PointOk d s k b) := by unfold PointOk; infer_instance
def pointE (d : Dir) (s k : Int) (b : UInt16) : Int := if rightB d = true then (if PointOk d s k b then (if rightB (pointD d s k b) = true then 0 else 171) else 2) else 170

theorem wcells_set (l : List UInt16) (i : Nat) (x : UInt16) : (wcells l).set i (.int .u16 (x.toNat : Int)) = wcells (l.set i x) := by simp [wcells, List.map_set]

set_option maxHeartbeats 4000000 in
set_option maxRecDepth 100000 in
theorem point_any (d : Dir) (A : Option Addr) (n c : Nat) (s k : Int) (b : UInt16) (w : World) (h : ReadsW w A n d.slots) (hn : n ≤ maxLen) :
    Calls Try.prog 20 #[dval d A n c, .int .i64 s, .int .i64 k, .int .u16 (b.toNat : Int)] w fun e w' => RetD w w' (pointD d s k b) (pointE d s k b) e := by
  have HL := Lib.hid h.1
  have HR := Lib.hid h; clear h
  obtain ⟨W0, hW0⟩ : ∃ W0 : World, W0 = w.alloc (.cells #[.int .u8 (d.depth.toNat : Int), .slice A n c] 24) := ⟨_, rfl⟩
  obtain ⟨W1, hW1⟩ : ∃ W1 : World, W1 = W0.alloc (.cells #[.int .u8 0, .slice none 0 0] 24) := ⟨_, rfl⟩
  have b0 : Below w.heap.size w W0 := by rw [hW0]; exact (Below.refl _ w).alloc (Nat.le_refl _) _
  have b1 : Below W0.heap.size W0 W1 := by rw [hW1]; exact (Below.refl _ _).alloc (Nat.le_refl _) _
  have z0 : W0.heap.size = w.heap.size + 1 := by rw [hW0]; simp
  have s0 : BoxD W0 w.heap.size d A n c := by rw [hW0]; exact BoxD.new w d A n c HR.out
  have q1 : MemC W1 (w.heap.size + 1) 0 [.int .u8 0, .slice none 0 0] := by rw [hW1, ← z0]; exact MemC.new W0 [.int .u8 0, .slice none 0 0] 24
  have B1 := Lib.hid (b0.trans (b1.mono b0.size))
  have S1 := Lib.hid (s0.keep b1)
  have Q1 := Lib.hid q1
  have HW : Hid (W1 = (w.alloc (.cells #[.int .u8 (d.depth.toNat : Int), .slice A n c] 24)).alloc (.cells #[.int .u8 0, .slice none 0 0] 24)) := Lib.hid (by rw [hW1, hW0])
  clear b0 b1 z0 s0 q1 hW0 hW1
  obtain ⟨a0, a1⟩ := S1.out.cells
  unfold maxLen at hn
  unfold dval
  go_enter Try.func20, Try.ntmps20
  go_upto_region 1 with fail
  rw [← HW.out]
  clear HW
  go_wp2_with fail
  rw [dval_eq]
  refine (right_any d A n c _ S1.out.rd (by simp only [maxLen]; omega)).mono ?_
  rintro e w3 ⟨rfl, hb⟩
  have B3 := Lib.hid (B1.out.trans (hb.mono B1.out.size))
  have S3 := Lib.hid (S1.out.keep hb)
  have Q3 := Lib.hid (Q1.out.keep hb)
  clear hb a0 a1 B1 S1 Q1
  obtain ⟨a0, a1⟩ := S3.out.cells
  obtain ⟨q0, _⟩ := Q3.out.get 0 _ rfl
  obtain ⟨q1, _⟩ := Q3.out.get 1 _ rfl
  have hfin : ∀ W, Below w.heap.size w W → ∀ u v, Below w.heap.size w ((W.setCell ⟨w.heap.size + 1, 0, none⟩ u).setCell ⟨w.heap.size + 1, 1, none⟩ v) := fun W hW u v => (hW.setCell (p := ⟨w.heap.size + 1, 0, none⟩) (by simp) _).setCell (p := ⟨w.heap.size + 1, 1, none⟩) (by simp) _
  have HFN := Lib.hid hfin; clear hfin
  cases hr : rightB d
  · have HF : Hid (pointE d s k b = 170) := Lib.hid (by unfold pointE; rw [hr]; rfl)
    clear hr
    go_wp2_with fail
    refine bodyPost_ret (v := .tuple #[dzero, .int .i64 170]) (by simp [results, Try.results20, go_sem, q0, q1, dzero]) rfl (.inr ⟨by rw [HF.out]; decide, by rw [HF.out], HFN.out _ B3.out _ _⟩)
  · have HRT := Lib.hid (rightB_iff.1 hr)
    obtain ⟨D, hD⟩ : ∃ D, D = d.depth.toNat := ⟨_, rfl⟩
    rw [← hD] at a0
    have HD := Lib.hid hD
    have hD8 : D ≤ 8 := by rw [hD]; exact HRT.out.le
    have hlen : n = 2 ^ D := by rw [← HL.out, hD]; exact HRT.out.len
    have hn256 : n ≤ 256 := by rw [hlen]; exact pow8 hD8
    have HLEN := Lib.hid hlen; clear hlen
    clear hD
    by_cases hok : PointOk d s k b
    · have HPE : Hid (pointE d s k b = if rightB (pointD d s k b) = true then 0 else 171) := Lib.hid (by unfold pointE; rw [hr, if_pos rfl, if_pos hok])
      clear hr
      unfold PointOk at hok
      rw [HL.out, ← HD.out] at hok
      obtain ⟨h1, h2, h3, h4, h5⟩ := hok
      obtain ⟨x, rfl⟩ := Int.eq_ofNat_of_zero_le h1
      obtain ⟨j, rfl⟩ := Int.eq_ofNat_of_zero_le h3
      have H5 := Lib.hid h5
      have t1 : ¬ (x : Int) < 0 := by omega
      have t2 : ¬ (n : Int) ≤ (x : Int) := by omega
      have t3 : ¬ (j : Int) < 0 := by omega
      have t4 : ¬ (D : Int) < (j : Int) := by omega
      have t5 : decide ((x : Int) < 0) = false := decide_eq_false t1
      have t6 : decide (n ≤ x) = false := decide_eq_false (by omega)
      have t7 : decide ((j : Int) < 0) = false := decide_eq_false t3
      have t8 : decide (D < j) = false := decide_eq_false (by omega)
      clear h1 h3 h5
      go_upto_region 5 with (go_at_call 34; refine (block_any b _).mono ?_; rintro e w' ⟨rfl, rfl⟩; rw [H5.out])
      have HS := Lib.hid (fun w' (hb : Below w3.heap.size w3 w') => show w'.cell? ⟨w.heap.size, 0, none⟩ = some (.int .u8 (D : Int)) ∧ w'.cell? ⟨w.heap.size, 1, none⟩ = some (.slice A n c) from ⟨by have := (S3.out.keep hb).cells.1; rw [← HD.out] at this; exact this, (S3.out.keep hb).cells.2⟩)
      go_cut [10] from 51 (fun s10 wx => ∃ P g c4 : Nat, s10 = .pointer (some ⟨P, 0, none⟩) ∧ MemC wx P 0 [.int .u8 (D : Int), .slice (some ⟨g, 0, none⟩) n c4] ∧ MemC wx g 0 (wcells d.slots) ∧ P ≠ g ∧ w3.heap.size ≤ P ∧ w3.heap.size ≤ g ∧ n ≤ c4 ∧ c4 ≤ maxLen ∧ Below w3.heap.size w3 wx)
      case first =>
        have HB := Lib.hid (Below.refl w3.heap.size w3)
        go_region_held3 (fun w' => w'.cell? ⟨w.heap.size, 0, none⟩ = some (.int .u8 (D : Int)) ∧ w'.cell? ⟨w.heap.size, 1, none⟩ = some (.slice A n c))
          ((refine HS.out _ ?_; repeat' (first | exact HB.out | exact Below.refl _ _ | refine Below.drew ?_ | refine Below.alloc ?_ (by first | exact HB.out.size | (simp; done) | (simp; omega)) _ | refine Below.setCell ?_ (by first | exact Nat.le_refl _ | exact HB.out.size | (simp; done) | (simp; omega)) _)))
          ((go_at_call 37; first
            | (refine (clone_any A n c d.slots _ (S3.out.rd.keep HB.out.drew) (by rw [HLEN.out]; exact pow_pos2 D) hn256).mono ?_; rintro e w4 ⟨v, rfl, hF⟩; obtain ⟨g4, c4, rfl, hg4, hm4, hl4, hc4, hb4⟩ := hF; rw [HL.out]; rw [HL.out] at hl4; have HB := Lib.hid (HB.out.drew.trans hb4))
            | (refine (clone_any A n c d.slots _ (S3.out.rd.keep (HB.out.alloc (Nat.le_refl _) _).drew) (by rw [HLEN.out]; exact pow_pos2 D) hn256).mono ?_; rintro e w4 ⟨v, rfl, hF⟩; obtain ⟨g4, c4, rfl, hg4, hm4, hl4, hc4, hb4⟩ := hF; rw [HL.out]; rw [HL.out] at hl4; have HB := Lib.hid ((HB.out.alloc (Nat.le_refl _) _).drew.trans (hb4.mono (by simp))); have m4 := ((MemC.new w3 [.int .u8 0, .slice none 0 0] 24).drew.keep hb4); have M4 := Lib.hid m4; obtain ⟨k0, kf0⟩ := m4.get 0 _ rfl; obtain ⟨k1, kf1⟩ := m4.get 1 _ rfl)))
        all_goals
          go_wp2_with fail
          go_meet
          case rel =>
            first
              | exact ⟨w4.heap.size, g4, c4, rfl, MemC.new w4 [.int .u8 (D : Int), .slice (some ⟨g4, 0, none⟩) n c4] 24, hm4.keep ((Below.refl _ w4).alloc (Nat.le_refl _) _), by have := hm4.at_.lt; omega, HB.out.size, hg4, hl4, hc4, HB.out.alloc HB.out.size _⟩
              | exact ⟨w3.heap.size, g4, c4, rfl, ((M4.out.setAt 0 (by simp) (.int .u8 (D : Int))).setAt 1 (by simp) (.slice (some ⟨g4, 0, none⟩) n c4)), hm4.only ((Only.set w4 w3.heap.size w3.heap.size 0 (.int .u8 (D : Int))).trans (Only.set _ w3.heap.size w3.heap.size 1 (.slice (some ⟨g4, 0, none⟩) n c4))) (by simp at hg4; omega) (by simp at hg4; omega), by simp at hg4; omega, Nat.le_refl _, by simp at hg4; omega, hl4, hc4, HB.out.trans (((Only.set w4 w3.heap.size w3.heap.size 0 (.int .u8 (D : Int))).trans (Only.set _ w3.heap.size w3.heap.size 1 (.slice (some ⟨g4, 0, none⟩) n c4))).below (Nat.le_refl _) (Nat.le_refl _))⟩
      case rest =>
        generalize wc = W5 at *
        obtain ⟨P, g, c4, rfl, mP, mg, hne, hP, hg, hnc, hcm, hb⟩ := hcut
        have MP := Lib.hid mP
        have MG := Lib.hid mg
        have B5 := Lib.hid (B3.out.trans (hb.mono B3.out.size))
        have S5 := Lib.hid (S3.out.keep hb)
        have Q5 := Lib.hid (Q3.out.keep hb)
        have Z5 : Hid (w.heap.size + 1 < w3.heap.size ∧ P < W5.heap.size ∧ g < W5.heap.size) := Lib.hid ⟨Q3.out.at_.lt, mP.at_.lt, mg.at_.lt⟩
        clear mP mg hb HS a0 a1 q0 q1 S3 Q3
        obtain ⟨a0, a1⟩ := S5.out.cells
        rw [← HD.out] at a0
        have hx2 : x < 2 ^ D := by rw [← HLEN.out]; exact Int.ofNat_lt.1 h2
        go_wp2_with fail
        refine (alike_any x j D _ (by omega) hD8 hx2).mono ?_
        rintro e w6 ⟨rfl, hb⟩
        have hpm := alike_le hx2 (show j ≤ D by omega)
        have hm8 := pow_le8 (j := D - j) (by omega)
        unfold alikeR rval
        dsimp only
        obtain ⟨m, hm⟩ : ∃ m, m = 2 ^ (D - j) := ⟨_, rfl⟩
        rw [← hm] at hpm hm8 ⊢
        obtain ⟨p, hp⟩ : ∃ p, p = x / m * m := ⟨_, rfl⟩
        rw [← hp] at hpm ⊢
        rw [← HLEN.out] at hpm
        have hpd : pointD d (x : Int) (j : Int) b = ⟨d.depth, setRun d.slots p m b⟩ := by
          unfold pointD pointL
          rw [← HD.out, show ((x : Int)).toNat = x from rfl, show ((j : Int)).toNat = j from rfl, ← hm, ← hp]
        have HPD := Lib.hid hpd
        obtain ⟨y, hy⟩ : ∃ y, y = p + m := ⟨_, rfl⟩
        rw [← hy] at hpm ⊢
        have HY := Lib.hid hy
        clear hm hp hpd hy hx2 a0 a1
        obtain ⟨W7, hW7⟩ : ∃ W7 : World, W7 = w6.alloc (.cells #[.int .i64 (p : Int), .int .i64 (y : Int)] 56) := ⟨_, rfl⟩
        have b7 : Below w6.heap.size w6 W7 := by rw [hW7]; exact (Below.refl _ _).alloc (Nat.le_refl _) _
        have R7 : Hid (MemC W7 w6.heap.size 0 [.int .i64 (p : Int), .int .i64 (y : Int)]) := Lib.hid (by rw [hW7]; exact MemC.new w6 [.int .i64 (p : Int), .int .i64 (y : Int)] 56)
        have b57 := hb.trans (b7.mono hb.size)
        have B7 := Lib.hid (B5.out.trans (b57.mono B5.out.size))
        have MP7 := Lib.hid (MP.out.keep b57)
        have MG7 := Lib.hid (MG.out.keep b57)
        have Q7 := Lib.hid (Q5.out.keep b57)
        have Z7 : Hid (W5.heap.size ≤ w6.heap.size) := Lib.hid hb.size
        have HW7 := Lib.hid hW7
        clear hb b7 b57 hW7 B5 MP MG Q5 S5
        go_upto_region 7 with fail
        rw [← HW7.out]
        clear HW7
        obtain ⟨r0, _⟩ := R7.out.get 0 _ rfl
        go_wp2_with fail
        clear r0
        go_loopw [12] (fun i wr => ∃ t : Nat, t ≤ m ∧ i = .int .i64 ((p + t : Nat) : Int) ∧ MemC wr g 0 (wcells (setRun d.slots p t b)) ∧ Only W7 wr g g) (fun i _ => y - (intOf i).toNat)
        case atStart => exact ⟨0, Nat.zero_le _, rfl, by rw [setRun_zero]; exact MG7.out, ⟨rfl, rfl, rfl, rfl, fun _ _ _ => rfl⟩⟩
        case round =>
          obtain ⟨t, ht, rfl, hmem, ho⟩ := hrel
          have HM := Lib.hid hmem; clear hmem
          have HO := Lib.hid ho; clear ho
          have ngP : P ≠ g := hne
          have ngR : w6.heap.size ≠ g := by have := Z5.out; have := Z7.out; omega
          obtain ⟨p0, pf0⟩ := (MP7.out.only HO.out hne hne).get 0 _ rfl
          obtain ⟨p1, pf1⟩ := (MP7.out.only HO.out hne hne).get 1 _ rfl
          obtain ⟨r1, _⟩ := (R7.out.only HO.out ngR ngR).get 1 _ rfl
          by_cases hlt : t < m
          · have hyy := HY.out
            obtain ⟨u, hu⟩ : ∃ u, u = p + t := ⟨_, rfl⟩
            rw [← hu]
            have u0 : (0 : Int) ≤ (u : Int) := by omega
            have u1 : (u : Int) < (y : Int) := by omega
            have u2 : (u : Int) < (n : Int) := by omega
            have hlen : (wcells (setRun d.slots p t b)).length = n := by rw [wcells_length, setRun_length, HL.out]
            obtain ⟨v0, cv, fv⟩ : ∃ v0, wr.cell? ⟨g, u, none⟩ = some v0 ∧ wr.frozen? ⟨g, u, none⟩ = false := ⟨_, HM.out.get u _ (List.getElem?_eq_getElem (by rw [hlen]; omega))⟩
            have hm5 := HM.out.setAt u (by rw [hlen]; omega) (.int .u16 (b.toNat : Int))
            rw [wcells_set, hu, setRun_succ _ _ _ _ (by rw [HL.out]; omega), ← hu] at hm5
            have HM5 := Lib.hid hm5
            have HO5 := Lib.hid (HO.out.trans (Only.set wr g g u (.int .u16 (b.toNat : Int))))
            have HU := Lib.hid hu
            clear hm5 hlen hu hyy
            go_wp2_with fail
            go_roundw
            case rel => exact ⟨t + 1, by omega, by rw [HU.out]; rfl, HM5.out, HO5.out⟩
            case measure => have := HU.out; have := HY.out; simp [intOf]; omega
          · obtain rfl : t = m := by omega
            rw [← HY.out]
            have u1 : ¬ (y : Int) < (y : Int) := by omega
            have hrd : ReadsW wr (some ⟨g, 0, none⟩) n (pointD d (x : Int) (j : Int) b).slots := by
              rw [HPD.out]
              have := HM.out.readsW
              rwa [setRun_length, HL.out] at this
            have hdv : Value.agg #[.int .u8 (D : Int), .slice (some ⟨g, 0, none⟩) n c4] = dval (pointD d (x : Int) (j : Int) b) (some ⟨g, 0, none⟩) n c4 := by
              rw [HPD.out]
              unfold dval
              rw [HD.out]
            have HRD := Lib.hid hrd
            have HDV := Lib.hid hdv
            have B8 := Lib.hid (B7.out.trans (HO.out.below (by have := Z5.out; omega) (by have := Z5.out; omega)))
            have hq8 := Q7.out.only HO.out (by have := Z5.out; omega) (by have := Z5.out; omega)
            have Q8 := Lib.hid hq8
            clear hrd hdv hq8
            go_wp2_with fail
            rw [HDV.out]
            refine (right_any (pointD d (x : Int) (j : Int) b) (some ⟨g, 0, none⟩) n c4 _ HRD.out (by simp only [maxLen]; omega)).mono ?_
            rintro e w9 ⟨rfl, hb9⟩
            have B9 := Lib.hid (B8.out.trans (hb9.mono B8.out.size))
            obtain ⟨q0, _⟩ := (Q8.out.keep hb9).get 0 _ rfl
            obtain ⟨q1, _⟩ := (Q8.out.keep hb9).get 1 _ rfl
            obtain ⟨p0, pf0⟩ := ((MP7.out.only HO.out hne hne).keep hb9).get 0 _ rfl
            obtain ⟨p1, pf1⟩ := ((MP7.out.only HO.out hne hne).keep hb9).get 1 _ rfl
            have MG9 := Lib.hid (HM.out.keep hb9)
            clear hb9
            cases hr : rightB (pointD d (x : Int) (j : Int) b)
            · have HF : Hid (pointE d (x : Int) (j : Int) b = 171) := Lib.hid (by rw [HPE.out, hr]; rfl)
              clear hr
              go_wp2_with fail
              refine bodyPost_ret (v := .tuple #[dzero, .int .i64 171]) (by simp [results, Try.results20, go_sem, q0, q1, dzero]) rfl (.inr ⟨by rw [HF.out]; decide, by rw [HF.out], HFN.out _ B9.out _ _⟩)
            · have HF : Hid (pointE d (x : Int) (j : Int) b = 0) := Lib.hid (by rw [HPE.out, hr]; rfl)
              clear hr
              have hrs : RetD w ((w9.setCell ⟨w.heap.size + 1, 0, none⟩ (.int .u8 (D : Int))).setCell ⟨w.heap.size + 1, 1, none⟩ (.slice (some ⟨g, 0, none⟩) n c4)) (pointD d (x : Int) (j : Int) b) (pointE d (x : Int) (j : Int) b) (.returned (.tuple #[.agg #[.int .u8 (D : Int), .slice (some ⟨g, 0, none⟩) n c4], .int .i64 0])) := by
                have ho2 := (Only.set w9 (w.heap.size + 1) (w.heap.size + 1) 0 (.int .u8 (D : Int))).trans (Only.set _ (w.heap.size + 1) (w.heap.size + 1) 1 (.slice (some ⟨g, 0, none⟩) n c4))
                have hln : (pointD d (x : Int) (j : Int) b).slots.length = n := by rw [HPD.out]; show (setRun d.slots p t b).length = n; rw [setRun_length, HL.out]
                refine .inl ⟨HF.out, .slice (some ⟨g, 0, none⟩) n c4, ?_, g, c4, by rw [hln], by have := Z5.out; omega, ?_, by rw [hln]; exact hnc, hcm, B9.out.trans (ho2.below (by omega) (by omega))⟩
                · rw [HPD.out]
                  show _ = Ending.returned (.tuple #[.agg #[.int .u8 (d.depth.toNat : Int), _], .int .i64 0])
                  rw [HD.out]
                · rw [HPD.out]
                  exact MG9.out.only ho2 (by have := Z5.out; omega) (by have := Z5.out; omega)
              have HRS := Lib.hid hrs
              clear hrs
              go_wp2_with fail
              exact bodyPost_ret (v := .tuple #[.agg #[.int .u8 (D : Int), .slice (some ⟨g, 0, none⟩) n c4], .int .i64 0]) (by simp [results, Try.results20, go_sem, q0, q1]) rfl HRS.out
    · have HF : Hid (pointE d s k b = 2) := Lib.hid (by unfold pointE; rw [hr, if_pos rfl, if_neg hok])
      clear hr
      unfold PointOk at hok
      rw [HL.out, ← HD.out] at hok
      have h' : s < 0 ∨ (¬ s < 0 ∧ (n : Int) ≤ s) ∨ (¬ s < 0 ∧ ¬ (n : Int) ≤ s ∧ k < 0) ∨ (¬ s < 0 ∧ ¬ (n : Int) ≤ s ∧ ¬ k < 0 ∧ (D : Int) < k) ∨ (¬ s < 0 ∧ ¬ (n : Int) ≤ s ∧ ¬ k < 0 ∧ ¬ (D : Int) < k ∧ okb b = false) := by
        by_cases c1 : s < 0
        · exact .inl c1
        · by_cases c2 : (n : Int) ≤ s
          · exact .inr (.inl ⟨c1, c2⟩)
          · by_cases c3 : k < 0
            · exact .inr (.inr (.inl ⟨c1, c2, c3⟩))
            · by_cases c4 : (D : Int) < k
              · exact .inr (.inr (.inr (.inl ⟨c1, c2, c3, c4⟩)))
              · refine .inr (.inr (.inr (.inr ⟨c1, c2, c3, c4, ?_⟩)))
                cases hb : okb b
                · rfl
                · exact absurd ⟨by omega, by omega, by omega, by omega, hb⟩ hok
      clear hok
      rcases h' with h1 | ⟨h1, h2⟩ | ⟨h1, h2, h3⟩ | ⟨h1, h2, h3, h4⟩ | ⟨h1, h2, h3, h4, h5⟩
      case inr.inr.inr.inr =>
        have H5 := Lib.hid h5; clear h5
        go_wp2_with (go_at_call 34; refine (block_any b _).mono ?_; rintro e w' ⟨rfl, rfl⟩; rw [H5.out])
        refine bodyPost_ret (v := .tuple #[dzero, .int .i64 2]) (by simp [results, Try.results20, go_sem, q0, q1, dzero]) rfl (.inr ⟨by rw [HF.out]; decide, by rw [HF.out], HFN.out _ B3.out _ _⟩)
      all_goals
        go_wp2_with fail
        refine bodyPost_ret (v := .tuple #[dzero, .int .i64 2]) (by simp [results, Try.results20, go_sem, q0, q1, dzero]) rfl (.inr ⟨by rw [HF.out]; decide, by rw [HF.out], HFN.out _ B3.out _ _⟩)

end Go.Proofs.Ytlkmcjjdjbdihaa
