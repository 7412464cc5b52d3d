/-
  The document's Bucket.
-/
import Derived.Test.YtlkmcjjdjbdihaaDrRc
import Derived.Test.YtlkmcjjdjbdihaaDrBkP
namespace Go.Proofs.Ytlkmcjjdjbdihaa
open Go.RowKit Go.Maps
set_option linter.unusedVariables false
set_option linter.unusedSimpArgs false
attribute [local go_sem ↓] Go.wp_at_zero Go.wp_at_succ

def depthV (d : Dir) (s : Int) : Int := if bucketE d s = 0 then depthI d.slots d.depth.toNat s.toNat else 0

theorem bucketE_ok {d : Dir} {s : Int} (h : bucketE d s = 0) : RightD d d.depth.toNat ∧ 0 ≤ s ∧ s < (d.slots.length : Int) := by
  unfold bucketE at h
  cases hr : rightB d
  · rw [hr] at h; simp at h
  · rw [hr, if_pos rfl] at h
    refine ⟨rightB_iff.1 hr, ?_⟩
    by_cases hin : 0 ≤ s ∧ s < (d.slots.length : Int)
    · exact hin
    · rw [if_neg hin] at h; simp at h
theorem bucketL_no {d : Dir} {s : Int} (h : bucketE d s ≠ 0) : bucketL d s = [] := by
  unfold bucketL
  have : bucketR d s = (0, 0) := by
    unfold bucketR
    rw [if_neg]
    rintro ⟨h1, h2, h3⟩
    apply h
    unfold bucketE
    rw [h1, if_pos rfl, if_pos ⟨h2, h3⟩]
  rw [this]
  rfl

theorem depth_gen (d : Dir) (A : Option Addr) (n c : Nat) (s : Int) (w : World) (h : ReadsW w A n d.slots) (hn : n ≤ maxLen) :
    Calls Try.prog 15 #[dval d A n c, .int .i64 s] w fun e w' => e = .returned (.tuple #[.int .i64 (depthV d s), .int .i64 (bucketE d s)]) ∧ Below w.heap.size w w' := by
  unfold depthV
  by_cases hE : bucketE d s = 0
  · obtain ⟨hR, h0, h1⟩ := bucketE_ok hE
    obtain ⟨t, rfl⟩ := Int.eq_ofNat_of_zero_le h0
    have ht : t < 2 ^ d.depth.toNat := by rw [← hR.len]; exact Int.ofNat_lt.1 h1
    obtain ⟨k, hk, hf⟩ := hR.fit t ht
    rw [if_pos hE, hE]
    have e : depthI d.slots d.depth.toNat ((t : Int)).toNat = (k : Int) := depthI_fit ht hk hf
    rw [e]
    exact depth_ok d A n c d.depth.toNat t k w h hR ht hk hf
  · rw [if_neg hE]
    exact depth_bad d A n c s w h hn hE

set_option maxHeartbeats 4000000 in
set_option maxRecDepth 100000 in
theorem rbucket_no (d : Dir) (A : Option Addr) (n c : Nat) (s : Int) (w : World) (h : ReadsW w A n d.slots) (hn : n ≤ maxLen) (hE : bucketE d s ≠ 0) :
    Calls Try.prog 16 #[dval d A n c, .int .i64 s] w fun e w' => e = .returned (.tuple #[.slice none 0 0, .int .i64 0, .int .i64 (bucketE d s)]) ∧ Below w.heap.size w w' := by
  have HR := Lib.hid h; clear h
  obtain ⟨W0, hW0⟩ : ∃ W0 : World, W0 = w.alloc (.cells #[.int .u8 (d.depth.toNat : Int), .slice A n c] 24) := ⟨_, rfl⟩
  have B0 : Hid (Below w.heap.size w W0) := Lib.hid (by rw [hW0]; exact (Below.refl _ w).alloc (Nat.le_refl _) _)
  have S0 : Hid (BoxD W0 w.heap.size d A n c) := Lib.hid (by rw [hW0]; exact BoxD.new w d A n c HR.out)
  have HW := Lib.hid hW0; clear hW0
  have hEb : (bucketE d s != 0) = true := by simpa using hE
  have hmy := fun (w : World) (h : ReadsW w A n d.slots) => may_any d A n c s w h hn
  generalize bucketE d s = E at *
  have HMY := Lib.hid hmy
  clear hE hmy
  unfold dval
  go_enter Try.func16, Try.ntmps16
  go_wp2_with fail
  rw [← HW.out, dval_eq]
  refine (HMY.out _ S0.out.rd).mono ?_
  rintro e w1 ⟨rfl, hb⟩
  have B1 := Lib.hid (B0.out.trans (hb.mono B0.out.size))
  clear hb
  go_wp2_with fail
  go_ret3
  exact ⟨rfl, B1.out⟩

set_option maxHeartbeats 4000000 in
set_option maxRecDepth 100000 in
theorem rbucket_ok (d : Dir) (bd od n c s p m : Nat) (kI : Int) (w : World) (h : ReadsW w (some ⟨bd, od, none⟩) n d.slots) (hn256 : n ≤ 256) (hs : s < n) (HE : Hid (bucketE d (s : Int) = 0)) (hd8 : d.depth.toNat ≤ 8) (Hl : Hid (n = 2 ^ d.depth.toNat)) (HK : Hid (depthI d.slots d.depth.toNat s = kI))
    (hch : Hid (∀ j, j < n → (at_ d.slots j = at_ d.slots s ↔ p ≤ j ∧ j < p + m))) (hpm : p + m ≤ n) :
    Calls Try.prog 16 #[dval d (some ⟨bd, od, none⟩) n c, .int .i64 (s : Int)] w fun e w' => ∃ v, e = .returned (.tuple #[v, .int .i64 kI, .int .i64 0]) ∧ w'.ownsRow w.heap.size 3 1 v m (icells (slotsR (p, p + m) m)) ∧ Below w.heap.size w w' := by
  have hn : n ≤ maxLen := Nat.le_trans hn256 (by decide)
  have HR := Lib.hid h; clear h
  have HS := Lib.hid hs
  have HPM := Lib.hid hpm
  have H256 := Lib.hid hn256
  obtain ⟨W0, hW0⟩ : ∃ W0 : World, W0 = w.alloc (.cells #[.int .u8 (d.depth.toNat : Int), .slice (some ⟨bd, od, none⟩) n c] 24) := ⟨_, rfl⟩
  have B0 : Hid (Below w.heap.size w W0) := Lib.hid (by rw [hW0]; exact (Below.refl _ w).alloc (Nat.le_refl _) _)
  have S0 : Hid (BoxD W0 w.heap.size d (some ⟨bd, od, none⟩) n c) := Lib.hid (by rw [hW0]; exact BoxD.new w d _ n c HR.out)
  have HW := Lib.hid hW0; clear hW0
  have s0 : (0 : Int) ≤ (s : Int) := Int.natCast_nonneg _
  have s1 : (s : Int) < (n : Int) := Int.ofNat_lt.2 hs
  clear hpm
  unfold dval
  go_enter Try.func16, Try.ntmps16
  go_wp2_with fail
  rw [← HW.out, dval_eq]
  refine (may_any d _ n c (s : Int) _ S0.out.rd hn).mono ?_
  rintro e X ⟨rfl, hb⟩
  rw [HE.out]
  have B1 := Lib.hid (B0.out.trans (hb.mono B0.out.size))
  have S1 := Lib.hid (S0.out.keep hb)
  clear hb
  obtain ⟨a0, a1⟩ := S1.out.cells
  unfold dval
  go_wp2_with fail
  go_loopw [8, 9] (fun v i wr => ∃ j : Nat, j ≤ n ∧ i = .int .i64 (j : Int) ∧ wr.ownsRow X.heap.size 3 1 v (inN p m j) (icells (slotsR (p, p + m) (inN p m j))) ∧ Below X.heap.size X wr) (fun _ i _ => n - (intOf i).toNat)
  case atStart => exact ⟨0, Nat.zero_le _, rfl, by rw [inN_zero]; exact World.ownsRow_nil _ _ _ _, Below.refl _ _⟩
  case round =>
    obtain ⟨j, hj, rfl, hown, hb⟩ := hrel
    have HO := Lib.hid hown; clear hown
    have HB := Lib.hid hb; clear hb
    have Sj := Lib.hid (S1.out.keep HB.out)
    clear a0 a1
    obtain ⟨a0, a1⟩ := Sj.out.cells
    by_cases hjn : j < n
    · have HJ := Lib.hid hjn
      have j0 : (0 : Int) ≤ (j : Int) := Int.natCast_nonneg _
      have j1 : (j : Int) < (n : Int) := Int.ofNat_lt.2 hjn
      have xj := Sj.out.rd.at' hjn
      have xs := Sj.out.rd.at' HS.out
      have hc := hch.out j hjn
      obtain ⟨u, hu⟩ : ∃ u, u = (at_ d.slots j).toNat := ⟨_, rfl⟩
      obtain ⟨v, hv⟩ : ∃ v, v = (at_ d.slots s).toNat := ⟨_, rfl⟩
      rw [← hu] at xj
      rw [← hv] at xs
      by_cases hin : p ≤ j ∧ j < p + m
      · have huv : u = v := by rw [hu, hv, hc.2 hin]
        have hN : inN p m (j + 1) = inN p m j + 1 := by rw [inN_succ, if_pos hin]
        have hq : p + inN p m j = j := by unfold inN; omega
        have hNn : inN p m j ≤ n := by unfold inN; omega
        obtain ⟨N, hNN⟩ : ∃ N, N = inN p m j := ⟨_, rfl⟩
        rw [← hNN] at HO hN hq hNn
        have HNE := Lib.hid hN
        have HQ := Lib.hid hq
        have HN := Lib.hid hNn
        clear hc hu hv hin hN hq hNN hNn
        subst huv
        go_upto_region 8 with fail
        go_quiet (fail)
        clear xj xs
        go_upto_region 9 with fail
        generalize hX : World.drewN wr _ = Y
        have hYo : Y.ownsRow X.heap.size 3 1 u8 N (icells (slotsR (p, p + m) N)) := by rw [← hX]; exact HO.out
        have hYb : Below X.heap.size X Y := by rw [← hX]; exact below_dN HB.out _
        have HYO := Lib.hid hYo
        have HYB := Lib.hid hYb
        clear hX hYo hYb a0 a1
        have hbig := HN.out
        have hb256 := H256.out
        go_wp2_with (at_builtin; (refine wpList_appendC rfl _ _ 34 rfl X.heap.size 3 (.int .i64 0) 1 8 Try.underlying34 intinfo rfl (by omega) u8 N (icells (slotsR (p, p + m) N)) rfl (HYO.out.alloc _) (some ⟨Y.heap.size, 0, none⟩) 1 1 (icells [(j : Int)]) rfl rfl (MemC.new Y _ 3).cells (icells_one _) (by simp only [maxLen]; omega) (by omega) (by have := HYB.out.size; simp; omega) ?_))
        intro v' w3 hown1 hgrow hnil hat
        have hb1 : Below X.heap.size X w3 := (HYB.out.alloc HYB.out.size _).grown hgrow (by have := HYB.out.size; simp; omega) (own_base HYO.out)
        have ho1 : w3.ownsRow X.heap.size 3 1 v' (inN p m (j + 1)) (icells (slotsR (p, p + m) (inN p m (j + 1)))) := by
          rw [HNE.out, slotsR_succ, icells_append]
          rw [show ((p, p + m).1 + N : Nat) = j from HQ.out]
          exact hown1
        have HO1 := Lib.hid ho1
        have HB1 := Lib.hid hb1
        clear hown1 hgrow hnil hat hb1 ho1
        go_wp2_with fail
        go_roundw
        case rel => exact ⟨j + 1, HJ.out, by go_num, HO1.out, HB1.out⟩
        case measure => have := HJ.out; simp [intOf]; omega
      · have huv : ¬ u = v := fun e => hin (hc.1 (UInt16.toNat_inj.1 (by rw [← hu, ← hv, e])))
        have q1 : ((u : Int) == (v : Int)) = false := beq_eq_false_iff_ne.2 (fun e => huv (Int.ofNat.inj e))
        have q2 : (u == v) = false := beq_eq_false_iff_ne.2 huv
        have hN : inN p m (j + 1) = inN p m j := by rw [inN_succ, if_neg hin]; rfl
        have HO1 : Hid (wr.ownsRow X.heap.size 3 1 u8 (inN p m (j + 1)) (icells (slotsR (p, p + m) (inN p m (j + 1))))) := Lib.hid (by rw [hN]; exact HO.out)
        clear hc hu hv hin huv hN
        go_upto_region 8 with fail
        go_quiet (fail)
        clear xj xs
        go_wp2_with fail
        go_roundw
        case rel => exact ⟨j + 1, HJ.out, by go_num, HO1.out, by first | exact HB.out | exact below_dN HB.out _⟩
        case measure => have := HJ.out; simp [intOf]; omega
    · obtain rfl : n = j := by omega
      have j1 : ¬ (n : Int) < (n : Int) := by omega
      rw [inN_all HPM.out] at HO
      go_wp2_with fail
      rw [dval_eq]
      refine (rdepth_any d _ n c s _ Sj.out.rd hd8 Hl.out HS.out).mono ?_
      rintro e w5 ⟨rfl, hb⟩
      rw [HK.out]
      have HO2 := Lib.hid (own_keep HO.out hb)
      have HB5 := Lib.hid (HB.out.trans (hb.mono HB.out.size))
      clear hb
      go_wp2_with fail
      go_ret3
      exact ⟨_, rfl, own_base_mono HO2.out B1.out.size, B1.out.trans (HB5.out.mono B1.out.size)⟩

theorem rbucket_any (d : Dir) (A : Option Addr) (n c : Nat) (s : Int) (w : World) (h : ReadsW w A n d.slots) (hn : n ≤ maxLen) :
    Calls Try.prog 16 #[dval d A n c, .int .i64 s] w fun e w' => ∃ v, e = .returned (.tuple #[v, .int .i64 (depthV d s), .int .i64 (bucketE d s)]) ∧ w'.ownsRow w.heap.size 3 1 v (bucketL d s).length (icells (bucketL d s)) ∧ Below w.heap.size w w' := by
  by_cases hE : bucketE d s = 0
  · obtain ⟨hR, h0, h1⟩ := bucketE_ok hE
    obtain ⟨t, rfl⟩ := Int.eq_ofNat_of_zero_le h0
    have hl : n = 2 ^ d.depth.toNat := by rw [← h.1, hR.len]
    have ht : t < 2 ^ d.depth.toNat := by rw [← hR.len]; exact Int.ofNat_lt.1 h1
    have hp8 := pow8 hR.le
    obtain ⟨bd, od, rfl, _, _⟩ := h.getD (k := t) (by omega)
    obtain ⟨k, hk, hf⟩ := hR.fit t ht
    obtain ⟨f1, f2, f3⟩ := bucket_fit hR ht hk hf
    have e : bucketL d (t : Int) = slotsR (t / 2 ^ (d.depth.toNat - k) * 2 ^ (d.depth.toNat - k), t / 2 ^ (d.depth.toNat - k) * 2 ^ (d.depth.toNat - k) + 2 ^ (d.depth.toNat - k)) (2 ^ (d.depth.toNat - k)) := by
      show slotsR (bucketR d (t : Int)) ((bucketR d (t : Int)).2 - (bucketR d (t : Int)).1) = _
      rw [f3]
      dsimp only
      rw [Nat.add_sub_cancel_left]
    have hV : depthV d (t : Int) = depthI d.slots d.depth.toNat t := by unfold depthV; rw [if_pos hE]; rfl
    rw [f1, f2, e, hV]
    exact rbucket_ok d bd od n c t _ _ _ w h (by omega) (by omega) (Lib.hid f1) hR.le (Lib.hid hl) (Lib.hid rfl) (Lib.hid fun j hj => by rw [in_block (pow_pos2 _)]; exact hf j (by omega)) (by rw [hl]; exact alike_le ht hk)
  · have hV : depthV d s = 0 := by unfold depthV; rw [if_neg hE]
    rw [hV, bucketL_no hE]
    exact (rbucket_no d A n c s w h hn hE).mono fun e w' ⟨h1, h2⟩ => ⟨_, h1, World.ownsRow_nil _ _ _ _, h2⟩

end Go.Proofs.Ytlkmcjjdjbdihaa
