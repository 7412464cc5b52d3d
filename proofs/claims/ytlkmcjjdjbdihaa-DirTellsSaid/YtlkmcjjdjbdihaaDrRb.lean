/-
  The document's Depth.
-/
import Derived.Test.YtlkmcjjdjbdihaaDrRa
namespace Go.Proofs.Ytlkmcjjdjbdihaa
open Go.RowKit Go.Maps
set_option linter.unusedVariables false
set_option linter.unusedSimpArgs false
attribute [local go_sem ↓] Go.wp_at_zero Go.wp_at_succ

def fitAt (l : List UInt16) (D s k i : Nat) : Bool := decide (at_ l i = at_ l s) == decide (i / 2 ^ (D - k) = s / 2 ^ (D - k))
def fitTo (l : List UInt16) (D s k j : Nat) : Bool := (List.range j).all (fitAt l D s k)
theorem fitTo_zero (l : List UInt16) (D s k : Nat) : fitTo l D s k 0 = true := rfl
theorem fitTo_succ (l : List UInt16) (D s k j : Nat) : fitTo l D s k (j + 1) = (fitTo l D s k j && fitAt l D s k j) := by simp [fitTo, List.range_succ, List.all_append]
theorem fitTo_iff {l : List UInt16} {D s k : Nat} : fitTo l D s k (2 ^ D) = true ↔ Fits l D s k := by
  unfold fitTo Fits fitAt
  rw [List.all_eq_true]
  simp only [List.mem_range, beq_iff_eq, decide_eq_decide]
/-- A bucket's depth, from k on; -1: none. -/
def depthFrom (l : List UInt16) (D s k : Nat) : Int := if k ≤ D then (if fitTo l D s k (2 ^ D) = true then (k : Int) else depthFrom l D s (k + 1)) else -1
termination_by D + 1 - k
decreasing_by omega
def depthI (l : List UInt16) (D s : Nat) : Int := depthFrom l D s 0
theorem depthFrom_yes {l : List UInt16} {D s k : Nat} (h : k ≤ D) (g : fitTo l D s k (2 ^ D) = true) : depthFrom l D s k = (k : Int) := by rw [depthFrom, if_pos h, if_pos g]
theorem depthFrom_no {l : List UInt16} {D s k : Nat} (h : k ≤ D) (g : fitTo l D s k (2 ^ D) = false) : depthFrom l D s k = depthFrom l D s (k + 1) := by rw [depthFrom, if_pos h, if_neg (by rw [g]; simp)]
theorem depthFrom_end {l : List UInt16} {D s k : Nat} (h : ¬ k ≤ D) : depthFrom l D s k = -1 := by rw [depthFrom, if_neg h]
theorem depthI_fit {l : List UInt16} {D s k : Nat} (hs : s < 2 ^ D) (hk : k ≤ D) (hf : Fits l D s k) : depthI l D s = (k : Int) := by
  have key : ∀ j m, m + j = k → depthFrom l D s m = (k : Int) := by
    intro j
    induction j with
    | zero =>
      intro m hm
      obtain rfl : m = k := by omega
      exact depthFrom_yes hk (fitTo_iff.2 hf)
    | succ j ih =>
      intro m hm
      cases hg : fitTo l D s m (2 ^ D)
      · rw [depthFrom_no (by omega) hg]
        exact ih (m + 1) (by omega)
      · have := fits_one hs (show m ≤ D by omega) hk (fitTo_iff.1 hg) hf
        omega
  exact key k 0 (by omega)
theorem depthFrom_ge (l : List UInt16) (D s k : Nat) : 0 ≤ depthFrom l D s k → ∃ j, j ≤ D ∧ Fits l D s j := by
  induction k using depthFrom.induct l D s with
  | case1 k h g => intro _; exact ⟨k, h, fitTo_iff.1 g⟩
  | case2 k h g ih => rw [depthFrom, if_pos h, if_neg g]; exact ih
  | case3 k h => rw [depthFrom, if_neg h]; intro h0; omega

set_option maxHeartbeats 4000000 in
set_option maxRecDepth 100000 in
theorem rdepth_any (d : Dir) (A : Option Addr) (n c s : Nat) (w : World) (h : ReadsW w A n d.slots) (hd8 : d.depth.toNat ≤ 8) (hl : n = 2 ^ d.depth.toNat) (hs : s < n) :
    Calls Try.prog 32 #[dval d A n c, .int .i64 (s : Int)] w fun e w' => e = .returned (.int .i64 (depthI d.slots d.depth.toNat s)) ∧ Below w.heap.size w w' := by
  have hp8 := pow8 hd8
  obtain ⟨bd, od, rfl, _, _⟩ := h.getD hs
  have HR := Lib.hid h; clear h
  have Hl := Lib.hid hl
  have hn256 : n ≤ 256 := by rw [hl]; exact hp8
  have HS := Lib.hid hs
  have HS2 : Hid (s < 2 ^ d.depth.toNat) := Lib.hid (by rw [← hl]; exact hs)
  clear hl hp8
  obtain ⟨W0, hW0⟩ : ∃ W0 : World, W0 = w.alloc (.cells #[.int .u8 (d.depth.toNat : Int), .slice (some ⟨bd, od, none⟩) n c] 24) := ⟨_, rfl⟩
  have B0 : Hid (Below w.heap.size w W0) := Lib.hid (by rw [hW0]; exact (Below.refl _ w).alloc (Nat.le_refl _) _)
  have S0 : Hid (BoxD W0 w.heap.size d (some ⟨bd, od, none⟩) n c) := Lib.hid (by rw [hW0]; exact BoxD.new w d _ n c HR.out)
  have HW := Lib.hid hW0; clear hW0
  obtain ⟨a0, a1⟩ := S0.out.cells
  have xs := S0.out.rd.at' HS.out
  have s0 : (0 : Int) ≤ (s : Int) := Int.natCast_nonneg _
  have s1 : (s : Int) < (n : Int) := Int.ofNat_lt.2 hs
  obtain ⟨v, hv⟩ : ∃ v, v = (at_ d.slots s).toNat := ⟨_, rfl⟩
  rw [← hv] at xs
  have HV := Lib.hid hv
  clear hv
  unfold dval
  go_enter Try.func32, Try.ntmps32
  go_upto_region 1 with fail
  rw [← HW.out]
  clear HW
  go_wp2_with fail
  go_loopw [5] (fun i wr => ∃ k : Nat, k ≤ d.depth.toNat + 1 ∧ i = .int .i64 (k : Int) ∧ depthFrom d.slots d.depth.toNat s k = depthI d.slots d.depth.toNat s ∧ Quiet W0 wr) (fun i _ => d.depth.toNat + 1 - (intOf i).toNat)
  case atStart => exact ⟨0, Nat.zero_le _, rfl, rfl, Quiet.refl _⟩
  case round =>
    obtain ⟨k, hk, rfl, hdf, hq⟩ := hrel
    have HDF := Lib.hid hdf; clear hdf
    obtain ⟨z, rfl⟩ := hq
    by_cases hkd : k ≤ d.depth.toNat
    · have k1 : (k : Int) ≤ (d.depth.toNat : Int) := by omega
      have HKD := Lib.hid hkd
      go_wp2_with fail
      go_loopw [6, 7] (fun f i wr => ∃ j : Nat, j ≤ n ∧ i = .int .i64 (j : Int) ∧ f = .bool (fitTo d.slots d.depth.toNat s k j) ∧ Quiet W0 wr) (fun _ i _ => n - (intOf i).toNat)
      case atStart => exact ⟨0, Nat.zero_le _, rfl, rfl, ⟨_, rfl⟩⟩
      case round =>
        obtain ⟨j, hj, rfl, rfl, hq⟩ := hrel
        obtain ⟨z2, rfl⟩ := hq
        by_cases hjn : j < n
        · have j0 : (0 : Int) ≤ (j : Int) := Int.natCast_nonneg _
          have j1 : (j : Int) < (n : Int) := Int.ofNat_lt.2 hjn
          have xj := S0.out.rd.at' hjn
          have HJ := Lib.hid hjn
          have hal := fun w => ralike_any j s k d.depth.toNat w (by rw [← Hl.out]; exact HJ.out) HS2.out HKD.out hd8
          have hfs := fitTo_succ d.slots d.depth.toNat s k j
          have hfa : fitAt d.slots d.depth.toNat s k j = (decide (at_ d.slots j = at_ d.slots s) == decide (j / 2 ^ (d.depth.toNat - k) = s / 2 ^ (d.depth.toNat - k))) := rfl
          obtain ⟨q, hq⟩ : ∃ q, q = decide (j / 2 ^ (d.depth.toNat - k) = s / 2 ^ (d.depth.toNat - k)) := ⟨_, rfl⟩
          obtain ⟨u, hu⟩ : ∃ u, u = (at_ d.slots j).toNat := ⟨_, rfl⟩
          rw [← hq] at hfa hal
          rw [← hu] at xj
          have huv : decide (at_ d.slots j = at_ d.slots s) = decide (u = v) := by
            rw [hu, HV.out]
            simp only [UInt16.toNat_inj]
          rw [hfa, huv] at hfs
          obtain ⟨F, hF⟩ : ∃ F, F = fitTo d.slots d.depth.toNat s k j := ⟨_, rfl⟩
          rw [← hF] at hfs ⊢
          have HAL := Lib.hid hal
          have HFS := Lib.hid hfs
          have HF := Lib.hid hF
          clear hal hfs hfa huv hq hu hF
          by_cases huv : u = v
          · subst huv
            rw [decide_eq_true rfl] at HFS
            cases q
            · have HF2 : Hid (fitTo d.slots d.depth.toNat s k (j + 1) = false) := Lib.hid (by rw [HFS.out]; simp)
              go_upto_region 8 with fail
              go_quiet ((go_at_call 39; exact (HAL.out _).mono fun e w' hh => ⟨hh.1, _, hh.2.symm⟩))
              go_wp2_with fail
              go_roundw
              case rel => exact ⟨j + 1, HJ.out, by go_num, by rw [HF2.out], ⟨_, rfl⟩⟩
              case measure => have := HJ.out; simp [intOf]; omega
            · have HF2 : Hid (fitTo d.slots d.depth.toNat s k (j + 1) = F) := Lib.hid (by rw [HFS.out]; simp)
              go_upto_region 8 with fail
              go_quiet ((go_at_call 39; exact (HAL.out _).mono fun e w' hh => ⟨hh.1, _, hh.2.symm⟩))
              go_wp2_with fail
              go_roundw
              case rel => exact ⟨j + 1, HJ.out, by go_num, by rw [HF2.out], ⟨_, rfl⟩⟩
              case measure => have := HJ.out; simp [intOf]; omega
          · rw [decide_eq_false huv] at HFS
            have q1 : ((u : Int) == (v : Int)) = false := beq_eq_false_iff_ne.2 (fun e => huv (Int.ofNat.inj e))
            have q2 : (u == v) = false := beq_eq_false_iff_ne.2 huv
            clear huv
            cases q
            · have HF2 : Hid (fitTo d.slots d.depth.toNat s k (j + 1) = F) := Lib.hid (by rw [HFS.out]; simp)
              go_upto_region 8 with fail
              go_quiet ((go_at_call 39; exact (HAL.out _).mono fun e w' hh => ⟨hh.1, _, hh.2.symm⟩))
              go_wp2_with fail
              go_roundw
              case rel => exact ⟨j + 1, HJ.out, by go_num, by rw [HF2.out], ⟨_, rfl⟩⟩
              case measure => have := HJ.out; simp [intOf]; omega
            · have HF2 : Hid (fitTo d.slots d.depth.toNat s k (j + 1) = false) := Lib.hid (by rw [HFS.out]; simp)
              go_upto_region 8 with fail
              go_quiet ((go_at_call 39; exact (HAL.out _).mono fun e w' hh => ⟨hh.1, _, hh.2.symm⟩))
              go_wp2_with fail
              go_roundw
              case rel => exact ⟨j + 1, HJ.out, by go_num, by rw [HF2.out], ⟨_, rfl⟩⟩
              case measure => have := HJ.out; simp [intOf]; omega
        · obtain rfl : n = j := by omega
          have j1 : ¬ (n : Int) < (n : Int) := by omega
          have hfit : fitTo d.slots d.depth.toNat s k n = fitTo d.slots d.depth.toNat s k (2 ^ d.depth.toNat) := by rw [← Hl.out]
          have HFT := Lib.hid hfit
          clear hfit
          cases hF : fitTo d.slots d.depth.toNat s k n
          · have HN2 : Hid (depthFrom d.slots d.depth.toNat s (k + 1) = depthI d.slots d.depth.toNat s) := Lib.hid (by rw [← depthFrom_no HKD.out (by rw [← HFT.out]; exact hF)]; exact HDF.out)
            clear hF
            go_wp2_with fail
            go_roundw
            case rel => exact ⟨k + 1, by omega, by go_num, HN2.out, ⟨_, rfl⟩⟩
            case measure => simp [intOf]; omega
          · have HN2 : Hid (depthI d.slots d.depth.toNat s = (k : Int)) := Lib.hid (by rw [← HDF.out]; exact depthFrom_yes HKD.out (by rw [← HFT.out]; exact hF))
            clear hF
            go_wp2_with fail
            go_ret
            exact ⟨by rw [HN2.out]; rfl, below_dN B0.out _⟩
    · have k1 : ¬ (k : Int) ≤ (d.depth.toNat : Int) := by omega
      have HN2 : Hid (depthI d.slots d.depth.toNat s = -1) := Lib.hid (by rw [← HDF.out]; exact depthFrom_end hkd)
      go_wp2_with fail
      go_ret
      exact ⟨by rw [HN2.out]; rfl, below_dN B0.out _⟩

end Go.Proofs.Ytlkmcjjdjbdihaa
