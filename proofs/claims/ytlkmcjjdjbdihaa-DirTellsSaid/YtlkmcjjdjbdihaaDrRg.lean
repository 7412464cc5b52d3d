/-
  The document's Point.
-/
import Derived.Test.YtlkmcjjdjbdihaaDrRf
namespace Go.Proofs.Ytlkmcjjdjbdihaa
open Go.RowKit Go.Maps
set_option linter.unusedVariables false
set_option linter.unusedSimpArgs false
attribute [local go_sem ↓] Go.wp_at_zero Go.wp_at_succ


theorem pointE_no {d : Dir} {s k : Int} {b : UInt16} (h : bucketE d s ≠ 0) : pointE d s k b = bucketE d s := by
  unfold pointE bucketE at *
  cases hr : rightB d
  · rfl
  · rw [hr, if_pos rfl] at h
    rw [if_pos rfl, if_pos rfl]
    by_cases hin : 0 ≤ s ∧ s < (d.slots.length : Int)
    · rw [if_pos hin] at h; exact absurd rfl h
    · rw [if_neg hin, if_neg]
      rintro ⟨h1, h2, _⟩
      exact hin ⟨h1, h2⟩
theorem point_told {d : Dir} {D s k : Nat} {b : UInt16} (hR : RightD d D) (j : Nat) (hj : j < 2 ^ D) : toldL (at_ (pointD d (s : Int) (k : Int) b).slots) (j + 1) = toldL (at_ (pointD d (s : Int) (k : Int) b).slots) j ++ [if j / 2 ^ (D - k) = s / 2 ^ (D - k) then b else at_ d.slots j] := by
  rw [toldL_succ, split_at hR j hj]

set_option maxHeartbeats 8000000 in
set_option maxRecDepth 100000 in
theorem rpoint_any (d : Dir) (A : Option Addr) (n c : Nat) (s k : Int) (b : UInt16) (w : World) (h : ReadsW w A n d.slots) (hn : n ≤ maxLen) :
    Calls Try.prog 21 #[dval d A n c, .int .i64 s, .int .i64 k, .int .u16 (b.toNat : Int)] w fun e w' => RetV w w' (pointD d s k b) (pointE d s k b) e := by
  have HL := Lib.hid h.1
  have HR := Lib.hid h; clear h
  obtain ⟨W0, hW0⟩ : ∃ W0 : World, W0 = w.alloc (.cells #[.int .u8 (d.depth.toNat : Int), .slice A n c] 24) := ⟨_, rfl⟩
  obtain ⟨W1, hW1⟩ : ∃ W1 : World, W1 = W0.alloc (.cells #[.int .u8 0, .slice none 0 0] 24) := ⟨_, rfl⟩
  have b0 : Below w.heap.size w W0 := by rw [hW0]; exact (Below.refl _ w).alloc (Nat.le_refl _) _
  have b1 : Below W0.heap.size W0 W1 := by rw [hW1]; exact (Below.refl _ _).alloc (Nat.le_refl _) _
  have z0 : W0.heap.size = w.heap.size + 1 := by rw [hW0]; simp
  have s0 : BoxD W0 w.heap.size d A n c := by rw [hW0]; exact BoxD.new w d A n c HR.out
  have q1 : MemC W1 (w.heap.size + 1) 0 [.int .u8 0, .slice none 0 0] := by rw [hW1, ← z0]; exact MemC.new W0 [.int .u8 0, .slice none 0 0] 24
  have B1 := Lib.hid (b0.trans (b1.mono b0.size))
  have S1 := Lib.hid (s0.keep b1)
  have Q1 := Lib.hid q1
  have HW : Hid (W1 = (w.alloc (.cells #[.int .u8 (d.depth.toNat : Int), .slice A n c] 24)).alloc (.cells #[.int .u8 0, .slice none 0 0] 24)) := Lib.hid (by rw [hW1, hW0])
  clear b0 b1 z0 s0 q1 hW0 hW1
  obtain ⟨a0, a1⟩ := S1.out.cells
  unfold dval
  go_enter Try.func21, Try.ntmps21
  go_upto_region 1 with fail
  rw [← HW.out]
  clear HW
  go_wp2_with fail
  rw [dval_eq]
  refine (may_any d A n c s _ S1.out.rd hn).mono ?_
  rintro e w3 ⟨rfl, hb⟩
  have B3 := Lib.hid (B1.out.trans (hb.mono B1.out.size))
  have S3 := Lib.hid (S1.out.keep hb)
  have Q3 := Lib.hid (Q1.out.keep hb)
  clear hb a0 a1 B1 S1 Q1
  obtain ⟨a0, a1⟩ := S3.out.cells
  obtain ⟨q0, _⟩ := Q3.out.get 0 _ rfl
  obtain ⟨q1, _⟩ := Q3.out.get 1 _ rfl
  have hfin : ∀ W, Below w.heap.size w W → ∀ u v, Below w.heap.size w ((W.setCell ⟨w.heap.size + 1, 0, none⟩ u).setCell ⟨w.heap.size + 1, 1, none⟩ v) := fun W hW u v => (hW.setCell (p := ⟨w.heap.size + 1, 0, none⟩) (by simp) _).setCell (p := ⟨w.heap.size + 1, 1, none⟩) (by simp) _
  have HFN := Lib.hid hfin; clear hfin
  have hZ : Hid (w.heap.size + 1 < w3.heap.size) := Lib.hid Q3.out.at_.lt
  unfold dval
  by_cases hE : bucketE d s = 0
  · obtain ⟨hR, h0, h1⟩ := bucketE_ok hE
    obtain ⟨t, rfl⟩ := Int.eq_ofNat_of_zero_le h0
    have ht : t < n := by rw [← HL.out]; exact Int.ofNat_lt.1 h1
    have hd8 := hR.le
    have hl : n = 2 ^ d.depth.toNat := by rw [← HL.out, hR.len]
    have hn256 : n ≤ 256 := by rw [hl]; exact pow8 hd8
    have hrt := right_of hR
    have HRT := Lib.hid hR
    have Hl := Lib.hid hl
    have HT := Lib.hid ht
    rw [hE]
    have hPE : pointE d (t : Int) k b = if PointOk d (t : Int) k b then (if rightB (pointD d (t : Int) k b) = true then 0 else 171) else 2 := by unfold pointE; rw [hrt, if_pos rfl]
    have HPE := Lib.hid hPE
    clear hE hR h0 h1 hrt hPE hl
    by_cases k0 : k < 0
    · have HF : Hid (pointE d (t : Int) k b = 2) := Lib.hid (by rw [HPE.out, if_neg]; rintro ⟨_, _, h3, _⟩; omega)
      go_wp2_with fail
      refine bodyPost_ret (v := .tuple #[dzero, .int .i64 2]) (by simp [results, Try.results21, go_sem, q0, q1, dzero]) rfl (by rw [HF.out]; exact retv_zero (by decide) (HFN.out _ B3.out _ _))
    · by_cases k4 : (d.depth.toNat : Int) < k
      · have HF : Hid (pointE d (t : Int) k b = 2) := Lib.hid (by rw [HPE.out, if_neg]; rintro ⟨_, _, _, h3, _⟩; omega)
        go_wp2_with fail
        refine bodyPost_ret (v := .tuple #[dzero, .int .i64 2]) (by simp [results, Try.results21, go_sem, q0, q1, dzero]) rfl (by rw [HF.out]; exact retv_zero (by decide) (HFN.out _ B3.out _ _))
      · by_cases y1 : (b.toNat : Int) < 1
        · have y3 : b.toNat = 0 := by omega
          have HF : Hid (pointE d (t : Int) k b = 2) := Lib.hid (by rw [HPE.out, if_neg]; rintro ⟨_, _, _, _, h3⟩; rw [okb_no (by omega)] at h3; cases h3)
          go_wp2_with fail
          refine bodyPost_ret (v := .tuple #[dzero, .int .i64 2]) (by simp [results, Try.results21, go_sem, q0, q1, dzero]) rfl (by rw [HF.out]; exact retv_zero (by decide) (HFN.out _ B3.out _ _))
        · by_cases y2 : (4095 : Int) < (b.toNat : Int)
          · have y3 : ¬ b.toNat = 0 := by omega
            have y4 : 4095 < b.toNat := by omega
            have HF : Hid (pointE d (t : Int) k b = 2) := Lib.hid (by rw [HPE.out, if_neg]; rintro ⟨_, _, _, _, h3⟩; rw [okb_no (by omega)] at h3; cases h3)
            go_wp2_with fail
            refine bodyPost_ret (v := .tuple #[dzero, .int .i64 2]) (by simp [results, Try.results21, go_sem, q0, q1, dzero]) rfl (by rw [HF.out]; exact retv_zero (by decide) (HFN.out _ B3.out _ _))
          · obtain ⟨j0, rfl⟩ := Int.eq_ofNat_of_zero_le (show 0 ≤ k by omega)
            have y3 : ¬ b.toNat = 0 := by omega
            have y4 : ¬ 4095 < b.toNat := by omega
            have hkD : j0 ≤ d.depth.toNat := by omega
            have HPE2 : Hid (pointE d (t : Int) (j0 : Int) b = if rightB (pointD d (t : Int) (j0 : Int) b) = true then 0 else 171) := Lib.hid (by
              rw [HPE.out, if_pos]
              exact ⟨by omega, by rw [HL.out]; exact Int.ofNat_lt.2 HT.out, by omega, by omega, okb_yes (by omega)⟩)
            have HKD := Lib.hid hkD
            obtain ⟨X, hX⟩ : ∃ X : World, X = w3.alloc (.cells #[.int .u8 (d.depth.toNat : Int), .slice none 0 0] 24) := ⟨_, rfl⟩
            have O0 : Hid (OutS w3 X (d.depth.toNat : Int) (.slice none 0 0) []) := Lib.hid (by rw [hX]; exact OutS.new w3 _)
            have HX := Lib.hid hX
            clear hX
            have g1 : decide ((j0 : Int) < 0) = false := decide_eq_false k0
            have g2 : decide ((d.depth.toNat : Int) < (j0 : Int)) = false := decide_eq_false k4
            have g3 : decide ((b.toNat : Int) < 1) = false := decide_eq_false y1
            have g4 : decide ((4095 : Int) < (b.toNat : Int)) = false := decide_eq_false y2
            have g5 : decide (d.depth.toNat < j0) = false := decide_eq_false (by omega)
            have g6 : decide (4095 < b.toNat) = false := decide_eq_false y4
            go_upto_region 7 with fail
            rw [← HX.out]
            clear HX a0 a1 q0 q1 y1 y2 y3 y4 k0 k4 g1 g2 g3 g4 g5 g6
            go_wp2_with fail
            have HAL := Lib.hid (fun (i : Nat) (hi : i < n) (w : World) => ralike_any i t j0 d.depth.toNat w (by rw [← Hl.out]; exact hi) (by rw [← Hl.out]; exact HT.out) HKD.out hd8)
            have HTD := Lib.hid (fun (i : Nat) (hi : i < n) => point_told (s := t) (k := j0) (b := b) HRT.out i (by rw [← Hl.out]; exact hi))
            go_loopw [12] (fun i wr => ∃ (j : Nat) (v : Value), j ≤ n ∧ i = .int .i64 (j : Int) ∧ OutS w3 wr (d.depth.toNat : Int) v (toldL (at_ (pointD d (t : Int) (j0 : Int) b).slots) j)) (fun i _ => n - (intOf i).toNat)
            case atStart => exact ⟨0, _, Nat.zero_le _, rfl, O0.out⟩
            case round =>
              obtain ⟨j, v, hj, rfl, hout⟩ := hrel
              have HO := Lib.hid hout; clear hout
              have Sj := Lib.hid (S3.out.keep HO.out.bel)
              obtain ⟨a0, a1⟩ := Sj.out.cells
              obtain ⟨p0, f0⟩ := HO.out.mem.get 0 _ rfl
              obtain ⟨p1, f1⟩ := HO.out.mem.get 1 _ rfl
              by_cases hjn : j < n
              · have HJ := Lib.hid hjn
                obtain ⟨bd, od, rfl, _, xj⟩ := Sj.out.rd.getD hjn
                have j0' : (0 : Int) ≤ (j : Int) := Int.natCast_nonneg _
                have j1' : (j : Int) < (n : Int) := Int.ofNat_lt.2 hjn
                have hal := HAL.out j hjn
                have htd := HTD.out j hjn
                obtain ⟨y, hy⟩ : ∃ y, y = decide (j / 2 ^ (d.depth.toNat - j0) = t / 2 ^ (d.depth.toNat - j0)) := ⟨_, rfl⟩
                have hite : (if j / 2 ^ (d.depth.toNat - j0) = t / 2 ^ (d.depth.toNat - j0) then b else at_ d.slots j) = (if y = true then b else at_ d.slots j) := by
                  rw [hy]
                  simp only [decide_eq_true_eq]
                rw [hite] at htd
                rw [← hy] at hal
                obtain ⟨x, hx⟩ : ∃ x, x = at_ d.slots j := ⟨_, rfl⟩
                rw [← hx] at xj htd
                obtain ⟨L, hL⟩ : ∃ L, L = toldL (at_ (pointD d (t : Int) (j0 : Int) b).slots) j := ⟨_, rfl⟩
                rw [← hL] at HO htd
                have hLl : L.length ≤ 256 := by rw [hL, toldL_length]; omega
                have HLL := Lib.hid hLl
                have HALj := Lib.hid hal
                have HTDj := Lib.hid htd
                clear hal htd hite hy hx hL hLl
                have hsz := HO.out.bel.size
                go_wp2_with fail
                refine (HALj.out _).mono ?_
                rintro e w' ⟨rfl, rfl⟩
                cases y
                · have h256 := HLL.out
                  go_wp2_with (at_builtin; (refine wpList_appendC rfl _ _ 22 rfl (w3.heap.size + 1) 26 (.int .u16 0) 1 2 Try.underlying22 u16info rfl (by omega) v L.length (wcells L) rfl (HO.out.row.alloc _) (some ⟨wr.heap.size, 0, none⟩) 1 1 (wcells [x]) rfl rfl (MemC.new wr _ 26).cells (wcells_one _) (by simp only [maxLen]; omega) (by omega) (by have := HO.out.mem.at_.lt; simp; omega) ?_))
                  intro v' w5 hown1 hgrow hnil hat
                  obtain ⟨A5, c5, rfl, _, _, _⟩ := own_readsW (l := L ++ [x]) (by rw [wcells_append]; exact hown1)
                  obtain ⟨hm5, ho5⟩ := HO.out.app (k := [x]) (m := 1) rfl hown1 hgrow
                  have HO5 := Lib.hid (show OutS w3 _ _ _ (toldL (at_ (pointD d (t : Int) (j0 : Int) b).slots) (j + 1)) by rw [HTDj.out]; exact ho5)
                  clear p0 f0 p1 f1 a0 a1 xj
                  obtain ⟨p0, f0⟩ := hm5.get 0 _ rfl
                  obtain ⟨p1, f1⟩ := hm5.get 1 _ rfl
                  clear hown1 hgrow hnil hat hm5 ho5
                  go_wp2_with fail
                  go_roundw
                  case rel => exact ⟨j + 1, _, HJ.out, by go_num, HO5.out⟩
                  case measure => have := HJ.out; simp [intOf]; omega
                · have h256 := HLL.out
                  go_wp2_with (at_builtin; (refine wpList_appendC rfl _ _ 22 rfl (w3.heap.size + 1) 26 (.int .u16 0) 1 2 Try.underlying22 u16info rfl (by omega) v L.length (wcells L) rfl (HO.out.row.alloc _) (some ⟨wr.heap.size, 0, none⟩) 1 1 (wcells [b]) rfl rfl (MemC.new wr _ 26).cells (wcells_one _) (by simp only [maxLen]; omega) (by omega) (by have := HO.out.mem.at_.lt; simp; omega) ?_))
                  intro v' w5 hown1 hgrow hnil hat
                  obtain ⟨A5, c5, rfl, _, _, _⟩ := own_readsW (l := L ++ [b]) (by rw [wcells_append]; exact hown1)
                  obtain ⟨hm5, ho5⟩ := HO.out.app (k := [b]) (m := 1) rfl hown1 hgrow
                  have HO5 := Lib.hid (show OutS w3 _ _ _ (toldL (at_ (pointD d (t : Int) (j0 : Int) b).slots) (j + 1)) by rw [HTDj.out]; exact ho5)
                  clear p0 f0 p1 f1 a0 a1 xj
                  obtain ⟨p0, f0⟩ := hm5.get 0 _ rfl
                  obtain ⟨p1, f1⟩ := hm5.get 1 _ rfl
                  clear hown1 hgrow hnil hat hm5 ho5
                  go_wp2_with fail
                  go_roundw
                  case rel => exact ⟨j + 1, _, HJ.out, by go_num, HO5.out⟩
                  case measure => have := HJ.out; simp [intOf]; omega
              · obtain rfl : n = j := by omega
                have j1' : ¬ (n : Int) < (n : Int) := by omega
                have hlen : (pointD d (t : Int) (j0 : Int) b).slots.length = n := by rw [split_len HRT.out, Hl.out]
                have hto := HO.out
                rw [told_all hlen] at hto
                have HO2 := Lib.hid hto
                clear hto HO
                obtain ⟨A9, c9, rfl, r9, l9⟩ := HO2.out.reads
                have R9 := Lib.hid r9
                clear r9
                obtain ⟨M, hM⟩ : ∃ M, M = (pointD d (t : Int) (j0 : Int) b).slots.length := ⟨_, rfl⟩
                rw [← hM] at p1 R9 l9
                have HMM := Lib.hid hM
                clear hM hlen
                go_wp2_with fail
                rw [show (Value.agg #[.int .u8 (d.depth.toNat : Int), .slice A9 M c9]) = dval (pointD d (t : Int) (j0 : Int) b) A9 M c9 from rfl]
                refine (rright_any (pointD d (t : Int) (j0 : Int) b) A9 M c9 _ R9.out l9).mono ?_
                rintro e w9 ⟨rfl, hb⟩
                have hp := HO2.out.mem.keep hb
                rw [← HMM.out] at hp
                have hq := (Q3.out.keep HO2.out.bel).keep hb
                have HBB := Lib.hid hb
                have B9 := Lib.hid (B3.out.trans ((HO2.out.bel.trans (hb.mono HO2.out.bel.size)).mono B3.out.size))
                obtain ⟨q0, qf0⟩ := hq.get 0 _ rfl
                obtain ⟨q1, qf1⟩ := hq.get 1 _ rfl
                clear p0 f0 p1 f1 a0 a1
                obtain ⟨p0, f0⟩ := hp.get 0 _ rfl
                obtain ⟨p1, f1⟩ := hp.get 1 _ rfl
                clear hp hq hb
                cases hrr : rightB (pointD d (t : Int) (j0 : Int) b)
                · have HF : Hid (pointE d (t : Int) (j0 : Int) b = 171) := Lib.hid (by rw [HPE2.out, hrr]; rfl)
                  clear hrr
                  go_wp2_with fail
                  refine bodyPost_ret (v := .tuple #[dzero, .int .i64 171]) (by simp [results, Try.results21, go_sem, q0, q1, dzero]) rfl (by rw [HF.out]; exact retv_zero (by decide) (HFN.out _ B9.out _ _))
                · have HF : Hid (pointE d (t : Int) (j0 : Int) b = 0) := Lib.hid (by rw [HPE2.out, hrr]; rfl)
                  have HRS : Hid (RetV w ((w9.setCell ⟨w.heap.size + 1, 0, none⟩ (.int .u8 (d.depth.toNat : Int))).setCell ⟨w.heap.size + 1, 1, none⟩ (.slice A9 M c9)) (pointD d (t : Int) (j0 : Int) b) (pointE d (t : Int) (j0 : Int) b) (.returned (.tuple #[.agg #[.int .u8 (d.depth.toNat : Int), .slice A9 M c9], .int .i64 0]))) := Lib.hid (by
                    rw [HF.out, HMM.out]
                    exact HO2.out.ret HBB.out B3.out rfl (Nat.le_succ _) hZ.out)
                  clear hrr
                  unfold dval
                  go_wp2_with fail
                  exact bodyPost_ret (v := .tuple #[.agg #[.int .u8 (d.depth.toNat : Int), .slice A9 M c9], .int .i64 0]) (by simp [results, Try.results21, go_sem, q0, q1]) rfl HRS.out
  · have hEb : (bucketE d s != 0) = true := by simpa using hE
    have HPN := Lib.hid (pointE_no (k := k) (b := b) hE)
    have HNE := Lib.hid hE
    generalize bucketE d s = E at *
    clear hE
    go_wp2_with fail
    refine bodyPost_ret (v := .tuple #[dzero, .int .i64 E]) (by simp [results, Try.results21, go_sem, q0, q1, dzero]) rfl (by rw [HPN.out]; exact retv_zero HNE.out (HFN.out _ B3.out _ _))

end Go.Proofs.Ytlkmcjjdjbdihaa
