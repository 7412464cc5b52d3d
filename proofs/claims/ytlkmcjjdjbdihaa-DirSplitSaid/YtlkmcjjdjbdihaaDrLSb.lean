/-
  DirSplit: the walk where a bucket is split; the law.
-/
import Derived.Test.YtlkmcjjdjbdihaaDrLSa
import Derived.Test.YtlkmcjjdjbdihaaDrCopy
namespace Go.Proofs.Ytlkmcjjdjbdihaa
open Go.RowKit Go.Maps
set_option linter.unusedVariables false
set_option linter.unusedSimpArgs false
attribute [local go_sem ↓] Go.wp_at_zero Go.wp_at_succ

theorem retd_box2 {w w' : World} {d : Dir} {e : Ending} (h : RetD w w' d 0 e) : ∃ g n c, e = .returned (.tuple #[dval d (some ⟨g, 0, none⟩) n c, .int .i64 0]) ∧ w.heap.size ≤ g ∧ MemC w' g 0 (wcells d.slots) ∧ d.slots.length = n ∧ n ≤ c ∧ c ≤ maxLen ∧ Below w.heap.size w w' := by
  rcases h with ⟨_, v, rfl, g, c, rfl, hg, hm, h1, h2, hb⟩ | ⟨h0, _⟩
  · exact ⟨g, _, c, rfl, hg, hm, rfl, h1, h2, hb⟩
  · exact absurd rfl h0
theorem inN_le (p m t : Nat) : inN p m t ≤ t := by unfold inN; omega

set_option maxHeartbeats 8000000 in
set_option maxRecDepth 100000 in
theorem split_good (d : Dir) (bd od n c x s k K m q p0 : Nat) (b : UInt16) (w : World) (h : ReadsW w (some ⟨bd, od, none⟩) n d.slots) (hn : n ≤ maxLen) (K1 : Hid (rightB d = true)) (hR : Hid (RightD d d.depth.toNat)) (hok : ¬ b.toNat = 0 ∧ ¬ 4096 ≤ b.toNat) (lx : x < 256) (hd8 : d.depth.toNat ≤ 8) (hn256 : n ≤ 256) (n0 : ¬ n = 0) (e1 : (x : Int) % (n : Int) = (s : Int)) (hs : s < n) (Hs : Hid (s < 2 ^ d.depth.toNat)) (Hk : Hid (k ≤ d.depth.toNat)) (Hf : Hid (Fits d.slots d.depth.toNat s k)) (hb : Hid (∀ i, i < n → at_ d.slots i ≠ b)) (hkd : Hid (k < d.depth.toNat)) (P : Dir)
    (HP : Hid (pointD d (s : Int) (K : Int) b = P)) (HE : Hid (pointE d (s : Int) (K : Int) b = 0)) (HK : Hid (K = k + 1)) (HPr : Hid (rightB P = true)) (HPR : Hid (RightD P d.depth.toNat)) (HPl : Hid (P.slots.length = n))
    (HPe : Hid (bucketE P (s : Int) = 0)) (HPm : Hid ((bucketL P (s : Int)).length = m)) (HBu : Hid (BudC s K d.depth.toNat q 0)) (hq : q < n) (Hq : Hid (q < 2 ^ d.depth.toNat)) (HPs : Hid (at_ P.slots s = b)) (HPq : Hid (at_ P.slots q = at_ d.slots s))
    (Hf1 : Hid (Fits P.slots d.depth.toNat s K)) (Hf2 : Hid (Fits P.slots d.depth.toNat q K)) (HK2 : Hid (K ≤ d.depth.toNat)) (HE2 : Hid (pointE P (s : Int) (K : Int) (at_ d.slots s) = 0)) (HD2 : Hid (pointD P (s : Int) (K : Int) (at_ d.slots s) = d))
    (Hch : Hid (∀ j, j < n → (at_ P.slots j ≠ at_ d.slots j ↔ p0 ≤ j ∧ j < p0 + m))) (hpm : p0 + m ≤ n) :
    Calls Try.prog 6 #[dval d (some ⟨bd, od, none⟩) n c, .int .u8 (x : Int), .int .u16 (b.toNat : Int)] w fun e w' => e = .returned (.bool true) ∧ Below w.heap.size w w' := by
  have HWK : Hid (IntKind.i64.wrap ((k : Int) + 1) = (K : Int)) := Lib.hid (by rw [HK.out]; exact (wrap_small (n := k + 1) (Nat.le_trans (Nat.succ_le_succ (Nat.le_trans Hk.out hd8)) (by decide))).2)
  have HQ := Lib.hid hq
  have HSn := Lib.hid hs
  have HM := Lib.hid hpm
  clear hpm
  have HR := Lib.hid h; clear h
  obtain ⟨W0, hW0⟩ : ∃ W0 : World, W0 = w.alloc (.cells #[.int .u8 (d.depth.toNat : Int), .slice (some ⟨bd, od, none⟩) n c] 24) := ⟨_, rfl⟩
  have B0 : Hid (Below w.heap.size w W0) := Lib.hid (by rw [hW0]; exact (Below.refl _ w).alloc (Nat.le_refl _) _)
  have S0 : Hid (BoxD W0 w.heap.size d (some ⟨bd, od, none⟩) n c) := Lib.hid (by rw [hW0]; exact BoxD.new w d (some ⟨bd, od, none⟩) n c HR.out)
  have HW := Lib.hid hW0; clear hW0
  obtain ⟨Y, hY⟩ : ∃ Y, Y = b.toNat := ⟨_, rfl⟩
  rw [← hY]
  obtain ⟨a0, a1⟩ := S0.out.cells
  unfold dval
  go_enter Try.func6, Try.ntmps6
  go_upto_region 1 with fail
  rw [← HW.out]
  clear HW
  go_wp2_with fail
  rw [dval_eq]
  refine (right_any d (some ⟨bd, od, none⟩) n c _ S0.out.rd hn).mono ?_
  rintro e w1 ⟨rfl, hb⟩
  have B1 := Lib.hid (B0.out.trans (hb.mono B0.out.size))
  have S1 := Lib.hid (S0.out.keep hb)
  clear hb a0 a1
  rw [K1.out]
  obtain ⟨a0, a1⟩ := S1.out.cells
  have HY := Lib.hid hY
  have y0 : ¬ Y = 0 := by rw [hY]; exact hok.1
  have y1 : ((Y : Int) == 0) = false := beq_eq_false_iff_ne.2 (by omega)
  have y2 : ¬ (4096 : Int) ≤ (Y : Int) := by rw [hY]; have := hok.2; omega
  have y3 : ¬ 4096 ≤ Y := by rw [hY]; exact hok.2
  clear hY hok
  unfold dval
  go_wp2_with fail
  rw [e1]
  rw [dval_eq]
  refine (depth_ok d (some ⟨bd, od, none⟩) n c d.depth.toNat s k _ S1.out.rd hR.out Hs.out Hk.out Hf.out).mono ?_
  rintro e w2 ⟨rfl, hb⟩
  have B2 := Lib.hid (B1.out.trans (hb.mono B1.out.size))
  have S2 := Lib.hid (S1.out.keep hb)
  clear hb a0 a1
  obtain ⟨a0, a1⟩ := S2.out.cells
  go_wp2_with fail
  go_loopw [53] (fun i wr => ∃ j : Nat, j ≤ n ∧ i = .int .i64 (j : Int) ∧ wr = w2) (fun i _ => n - (intOf i).toNat)
  case atStart => exact ⟨0, Nat.zero_le _, rfl, rfl⟩
  case round =>
    obtain ⟨j, hj, rfl, rfl⟩ := hrel
    by_cases hlt : j < n
    · have cj := S2.out.rd.at' hlt
      have h1 : (j : Int) < (n : Int) := by omega
      have h2 : (0 : Int) ≤ (j : Int) := by omega
      have huv := hb.out j hlt
      obtain ⟨u, hu⟩ : ∃ u, u = (at_ d.slots j).toNat := ⟨_, rfl⟩
      rw [← hu] at cj
      have huv2 : ¬ u = Y := fun e => huv (UInt16.toNat_inj.1 (by rw [← hu, e, HY.out]))
      have q1 : ((u : Int) == (Y : Int)) = false := beq_eq_false_iff_ne.2 (by omega)
      have q2 : (u == Y) = false := beq_eq_false_iff_ne.2 huv2
      clear hu huv huv2
      go_wp2_with fail
      go_roundw
      case rel => exact ⟨j + 1, by omega, by go_num, trivial⟩
      case measure => simp [intOf]; omega
    · obtain rfl : n = j := by omega
      have h1 : ¬ (n : Int) < (n : Int) := by omega
      have wk := HWK.out
      go_wp2_with fail
      clear wk
      rw [HY.out, dval_eq]
      refine (point_any d (some ⟨bd, od, none⟩) n c (s : Int) (K : Int) b _ S2.out.rd hn).mono ?_
      rintro e w3 hD
      rw [HE.out, HP.out] at hD
      obtain ⟨A3, n3, c3, rfl, r3, h3, hm3, hb3⟩ := retd_box hD
      obtain rfl : n3 = n := by rw [← HPl.out, ← r3.1]
      obtain ⟨pd, po, rfl, _, _⟩ := r3.getD HSn.out
      obtain ⟨W4, hV⟩ : ∃ W : World, W = w3.alloc (.cells #[.int .u8 (P.depth.toNat : Int), .slice (some ⟨pd, po, none⟩) n3 c3] 24) := ⟨_, rfl⟩
      have bV : Below w3.heap.size w3 W4 := by rw [hV]; exact (Below.refl _ _).alloc (Nat.le_refl _) _
      have T4 : Hid (BoxD W4 w3.heap.size P (some ⟨pd, po, none⟩) n3 c3) := Lib.hid (by rw [hV]; exact BoxD.new w3 P _ n3 c3 r3)
      have bb := hb3.trans (bV.mono hb3.size)
      have B4 := Lib.hid (B2.out.trans (bb.mono B2.out.size))
      have S4 := Lib.hid (S2.out.keep bb)
      have HW := Lib.hid hV
      clear hD hb3 bV hV bb a0 a1
      unfold dval
      go_upto_region 12 with fail
      rw [← HW.out]
      clear HW
      obtain ⟨a0, a1⟩ := S4.out.cells
      obtain ⟨t0, t1⟩ := T4.out.cells
      have k1 : ((k : Int) == (d.depth.toNat : Int)) = false := beq_eq_false_iff_ne.2 (by have := hkd.out; omega)
      have k2 : (k == d.depth.toNat) = false := beq_eq_false_iff_ne.2 (by have := hkd.out; omega)
      go_wp2_with fail
      clear k1 k2
      rw [dval_eq]
      refine (right_any P _ n3 c3 _ T4.out.rd hn).mono ?_
      rintro e w5 ⟨rfl, hb5⟩
      rw [HPr.out]
      have B5 := Lib.hid (B4.out.trans (hb5.mono B4.out.size))
      have S5 := Lib.hid (S4.out.keep hb5)
      have T5 := Lib.hid (T4.out.keep hb5)
      clear hb5 a0 a1 t0 t1
      obtain ⟨t0, t1⟩ := T5.out.cells
      unfold dval
      go_wp2_with fail
      rw [dval_eq]
      refine (Bucket_any P _ n3 c3 (s : Int) _ T5.out.rd hn).mono ?_
      rintro e w6 ⟨v6, rfl, hown, hb6⟩
      rw [HPm.out] at hown
      rw [HPe.out]
      obtain ⟨A6, c6, rfl, _, _, _⟩ := own_readsI hown
      have B6 := Lib.hid (B5.out.trans (hb6.mono B5.out.size))
      have S6 := Lib.hid (S5.out.keep hb6)
      have T6 := Lib.hid (T5.out.keep hb6)
      clear hown hb6 t0 t1
      obtain ⟨a0, a1⟩ := S6.out.cells
      have wk := HWK.out
      go_wp2_with fail
      clear wk
      refine (HBu.out _).mono ?_
      rintro e w7 ⟨rfl, hb7⟩
      have B7 := Lib.hid (B6.out.trans (hb7.mono B6.out.size))
      have S7 := Lib.hid (S6.out.keep hb7)
      have T7 := Lib.hid (T6.out.keep hb7)
      clear hb7 a0 a1
      obtain ⟨a0, a1⟩ := S7.out.cells
      obtain ⟨t0, t1⟩ := T7.out.cells
      have x1 := T7.out.rd.at' HSn.out
      have x2 := T7.out.rd.at' HQ.out
      have x3 := S7.out.rd.at' HSn.out
      rw [HPs.out] at x1
      rw [HPq.out] at x2
      obtain ⟨u, hu⟩ : ∃ u, u = (at_ d.slots s).toNat := ⟨_, rfl⟩
      rw [← hu] at x2 x3
      have HU := Lib.hid hu
      have i1 : (0 : Int) ≤ (s : Int) := Int.natCast_nonneg _
      have i2 : (s : Int) < (n3 : Int) := Int.ofNat_lt.2 HSn.out
      have i3 : (0 : Int) ≤ (q : Int) := Int.natCast_nonneg _
      have i4 : (q : Int) < (n3 : Int) := Int.ofNat_lt.2 HQ.out
      clear hu
      go_upto_region 18 with fail
      go_quiet (fail)
      clear x1 x2 x3
      go_wp2_with fail
      rw [dval_eq]
      refine (depth_ok P _ n3 c3 d.depth.toNat s K _ (T7.out.rd.keep (bdn _ _)) HPR.out Hs.out HK2.out Hf1.out).mono ?_
      rintro e w8 ⟨rfl, hb⟩
      have hb8 : Below w7.heap.size w7 w8 := (bdn w7 _).trans hb
      have B8 := Lib.hid (B7.out.trans (hb8.mono B7.out.size))
      have S8 := Lib.hid (S7.out.keep hb8)
      have T8 := Lib.hid (T7.out.keep hb8)
      clear hb hb8 a0 a1 t0 t1
      obtain ⟨t0, t1⟩ := T8.out.cells
      unfold dval
      go_wp2_with fail
      rw [dval_eq]
      refine (depth_ok P _ n3 c3 d.depth.toNat q K _ T8.out.rd HPR.out Hq.out HK2.out Hf2.out).mono ?_
      rintro e w9 ⟨rfl, hb9⟩
      have B9 := Lib.hid (B8.out.trans (hb9.mono B8.out.size))
      have S9 := Lib.hid (S8.out.keep hb9)
      have T9 := Lib.hid (T8.out.keep hb9)
      clear hb9 t0 t1
      obtain ⟨a0, a1⟩ := S9.out.cells
      have wk := HWK.out
      unfold dval
      go_wp2_with fail
      clear wk
      go_loopw [22, 169] (fun ch i wr => ∃ j : Nat, j ≤ n3 ∧ i = .int .i64 (j : Int) ∧ ch = .int .i64 (inN p0 m j : Int) ∧ Quiet w9 wr) (fun _ i _ => n3 - (intOf i).toNat)
      case atStart => exact ⟨0, Nat.zero_le _, rfl, by rw [inN_zero]; rfl, Quiet.refl _⟩
      case round =>
        obtain ⟨j, hj, rfl, rfl, hq⟩ := hrel
        obtain ⟨z, rfl⟩ := hq
        by_cases hlt : j < n3
        · have x1 := T9.out.rd.at' hlt
          have x3 := S9.out.rd.at' hlt
          have hc := Hch.out j hlt
          obtain ⟨t0, t1⟩ := T9.out.cells
          obtain ⟨v1, hv1⟩ : ∃ v, v = (at_ P.slots j).toNat := ⟨_, rfl⟩
          obtain ⟨v2, hv2⟩ : ∃ v, v = (at_ d.slots j).toNat := ⟨_, rfl⟩
          rw [← hv1] at x1
          rw [← hv2] at x3
          have j1 : (0 : Int) ≤ (j : Int) := Int.natCast_nonneg _
          have j2 : (j : Int) < (n3 : Int) := Int.ofNat_lt.2 hlt
          have hle := inN_le p0 m j
          have hsu := inN_succ p0 m j
          obtain ⟨N, hN⟩ : ∃ N, N = inN p0 m j := ⟨_, rfl⟩
          rw [← hN] at hle hsu ⊢
          have wN := (wrap_small (n := N + 1) (by omega)).2
          have wN2 : IntKind.i64.wrap ((N : Int) + 1) = ((N + 1 : Nat) : Int) := wN
          have eN : (N : Int) + 1 = ((N + 1 : Nat) : Int) := rfl
          have HN1 := Lib.hid hN
          have HSU := Lib.hid hsu
          clear hN hsu wN
          by_cases hin : p0 ≤ j ∧ j < p0 + m
          · have hne : ¬ v1 = v2 := fun e => hc.2 hin (UInt16.toNat_inj.1 (by rw [← hv1, ← hv2, e]))
            have q1 : ((v1 : Int) != (v2 : Int)) = true := by rw [bne_iff_ne]; exact fun e => hne (Int.ofNat.inj e)
            have q2 : ((v1 : Int) == (v2 : Int)) = false := beq_eq_false_iff_ne.2 (fun e => hne (Int.ofNat.inj e))
            have HIN := Lib.hid hin
            have HWN := Lib.hid wN2
            clear hc hv1 hv2 hin hne wN2 eN
            go_upto_region 28 with fail
            go_quiet (fail)
            have wN2 := HWN.out
            go_wp2_with fail
            clear wN2
            go_roundw
            case rel => exact ⟨j + 1, by omega, by go_num, by rw [HSU.out, if_pos HIN.out]; rfl, ⟨_, rfl⟩⟩
            case measure => simp [intOf]; omega
          · have he : v1 = v2 := by
              rw [hv1, hv2]
              false_or_by_contra
              rename_i h0
              exact hin (hc.1 (fun e => h0 (by rw [e])))
            subst he
            have q1 : ((v1 : Int) != (v1 : Int)) = false := by simp
            have HIN := Lib.hid hin
            clear hc hv1 hv2 hin wN2 eN
            go_upto_region 28 with fail
            go_quiet (fail)
            go_wp2_with fail
            go_roundw
            case rel => exact ⟨j + 1, by omega, by go_num, by rw [HSU.out, if_neg HIN.out]; rfl, ⟨_, rfl⟩⟩
            case measure => simp [intOf]; omega
        · obtain rfl : n3 = j := by omega
          have h9 : ¬ (n3 : Int) < (n3 : Int) := by omega
          rw [inN_all HM.out]
          obtain ⟨X, hX⟩ : ∃ X : World, X = w9.drewN z := ⟨_, rfl⟩
          rw [← hX]
          have bX : Below w9.heap.size w9 X := by rw [hX]; exact bdn _ _
          have BX := Lib.hid (B9.out.trans (bX.mono B9.out.size))
          have SX := Lib.hid (S9.out.keep bX)
          have TX := Lib.hid (T9.out.keep bX)
          clear hX bX a0 a1
          have HS := Lib.hid (fun w' (hb : Below X.heap.size X w') => show (w'.cell? ⟨w.heap.size, 0, none⟩ = some (.int .u8 (d.depth.toNat : Int)) ∧ w'.cell? ⟨w.heap.size, 1, none⟩ = some (.slice (some ⟨bd, od, none⟩) n3 c)) ∧ (w'.cell? ⟨w3.heap.size, 0, none⟩ = some (.int .u8 (P.depth.toNat : Int)) ∧ w'.cell? ⟨w3.heap.size, 1, none⟩ = some (.slice (some ⟨pd, po, none⟩) n3 c3)) ∧ w'.cell? ⟨bd, od + s, none⟩ = some (.int .u16 (u : Int)) from ⟨(SX.out.keep hb).cells, (TX.out.keep hb).cells, by rw [HU.out]; exact (SX.out.keep hb).rd.at' HSn.out⟩)
          have HB := Lib.hid (Below.refl X.heap.size X)
          obtain ⟨⟨a0, a1⟩, ⟨t0, t1⟩, x3⟩ := HS.out X (Below.refl _ _)
          have hcp : ∀ w', ReadsW w' (some ⟨pd, po, none⟩) n3 P.slots → Calls Try.prog 20 #[.agg #[.int .u8 (P.depth.toNat : Int), .slice (some ⟨pd, po, none⟩) n3 c3], .int .i64 (s : Int), .int .i64 (K : Int), .int .u16 (u : Int)] w' fun e w'' => RetD w' w'' d 0 e := fun w' h => by
            have h2 := point_any P (some ⟨pd, po, none⟩) n3 c3 (s : Int) (K : Int) (at_ d.slots s) w' h hn
            rw [HE2.out, HD2.out, ← HU.out] at h2
            exact h2
          have HCP := Lib.hid hcp
          clear hcp
          go_upto_region 31 with fail
          have wk := HWK.out
          go_cut [24, 25] from 186 (fun s24 s25 wx => s25 = .int .i64 0 ∧ ∃ (Q : Nat) (A9 : Option Addr) (n9 c9 : Nat), s24 = .pointer (some ⟨Q, 0, none⟩) ∧ BoxD wx Q d A9 n9 c9 ∧ n9 ≤ maxLen ∧ Below X.heap.size X wx)
          case first =>
            go_region_held3 (fun w' => (w'.cell? ⟨w.heap.size, 0, none⟩ = some (.int .u8 (d.depth.toNat : Int)) ∧ w'.cell? ⟨w.heap.size, 1, none⟩ = some (.slice (some ⟨bd, od, none⟩) n3 c)) ∧ (w'.cell? ⟨w3.heap.size, 0, none⟩ = some (.int .u8 (P.depth.toNat : Int)) ∧ w'.cell? ⟨w3.heap.size, 1, none⟩ = some (.slice (some ⟨pd, po, none⟩) n3 c3)) ∧ w'.cell? ⟨bd, od + s, none⟩ = some (.int .u16 (u : Int)))
              ((refine HS.out _ ?_; (repeat' (first | exact HB.out | exact Below.refl _ _ | refine Below.drew ?_ | refine Below.alloc ?_ (by first | exact HB.out.size | exact Nat.le_refl _ | (simp; done) | (have := HB.out.size; simp at this ⊢; omega)) _ | refine Below.setCell ?_ (by first | exact Nat.le_refl _ | (simp; done) | (simp; omega)) _))))
              ((go_at_call 20; first
                | (refine (HCP.out _ ((TX.out.keep HB.out.drew).rd)).mono ?_; rintro e w10 hD; obtain ⟨g9, n9, c9, rfl, hg9, m9, hn9, h9', hm9, hb⟩ := retd_box2 hD; unfold dval; have HB := Lib.hid (HB.out.drew.trans hb); clear hD hb)
                | (refine (HCP.out _ ((TX.out.keep (HB.out.alloc (Nat.le_refl _) _).drew).rd)).mono ?_; rintro e w10 hD; obtain ⟨g9, n9, c9, rfl, hg9, m9, hn9, h9', hm9, hb⟩ := retd_box2 hD; unfold dval; have m4 := ((MemC.new X [.int .u8 0, .slice none 0 0] 24).drew.keep hb); have M4 := Lib.hid m4; obtain ⟨k0, kf0⟩ := m4.get 0 _ rfl; obtain ⟨k1, kf1⟩ := m4.get 1 _ rfl; have HB := Lib.hid ((HB.out.alloc (Nat.le_refl _) _).drew.trans (hb.mono (by simp))); clear hD hb m4)))
            all_goals
              go_wp2_with fail
              go_meet
              case rel =>
                first
                  | exact ⟨rfl, w10.heap.size, _, n9, c9, rfl, ⟨MemC.new w10 [.int .u8 (d.depth.toNat : Int), .slice (some ⟨g9, 0, none⟩) n9 c9] 24, hn9 ▸ (m9.keep ((Below.refl _ _).alloc (Nat.le_refl _) _)).readsW⟩, Nat.le_trans h9' hm9, HB.out.alloc HB.out.size _⟩
                  | exact ⟨rfl, X.heap.size, _, n9, c9, rfl, ⟨(M4.out.setAt 0 (by simp) (.int .u8 (d.depth.toNat : Int))).setAt 1 (by simp) (.slice (some ⟨g9, 0, none⟩) n9 c9), hn9 ▸ (m9.only ((Only.set w10 X.heap.size X.heap.size 0 (.int .u8 (d.depth.toNat : Int))).trans (Only.set _ X.heap.size X.heap.size 1 (.slice (some ⟨g9, 0, none⟩) n9 c9))) (by simp at hg9; omega) (by simp at hg9; omega)).readsW⟩, Nat.le_trans h9' hm9, HB.out.trans (((Only.set w10 X.heap.size X.heap.size 0 (.int .u8 (d.depth.toNat : Int))).trans (Only.set _ X.heap.size X.heap.size 1 (.slice (some ⟨g9, 0, none⟩) n9 c9))).below (Nat.le_refl _) (Nat.le_refl _))⟩
          case rest =>
            generalize wc = W8 at *
            obtain ⟨rfl, Q, A9, n9, c9, rfl, bq, hn9, hb⟩ := hcut
            clear a0 a1 t0 t1 x3 wk
            have BQ := Lib.hid bq
            have B10 := Lib.hid (BX.out.trans (hb.mono BX.out.size))
            have S10 := Lib.hid (SX.out.keep hb)
            obtain ⟨q0, q1⟩ := bq.cells
            obtain ⟨a0, a1⟩ := S10.out.cells
            have hmm : ((m : Int) == (m : Int)) = true := beq_self_eq_true _
            clear bq hb
            go_wp2_with fail
            rw [dval_eq, dval_eq]
            refine (same_any d d A9 _ n9 n3 c9 c _ BQ.out.rd S10.out.rd hn9 hn).mono ?_
            rintro e w11 ⟨rfl, hb⟩
            rw [sameD_iff.2 rfl]
            have B11 := Lib.hid (B10.out.trans (hb.mono B10.out.size))
            clear hb q0 q1 a0 a1
            go_wp2_with fail
            refine (awake_any _).mono ?_
            rintro e w12 ⟨rfl, hb⟩
            have B12 := Lib.hid (B11.out.trans (hb.mono B11.out.size))
            go_wp2_with fail
            go_ret
            exact ⟨rfl, B12.out⟩

end Go.Proofs.Ytlkmcjjdjbdihaa
