/-
  A super in memory; super.Right, Slot.
-/
import Derived.Test.YtfnoeligaapnbaaSuPlain
import Derived.Test.YtfnoeligaapnbaaOcU
import Derived.Test.YtfnoeligaapnbaaCells
import Derived.Test.YtfnoeligaapnbaaOwn
import Derived.Lib.Hide
import Derived.Deep.RegionHeld3
import Derived.Deep.DrawnRows
import Derived.Deep.QuietTactic
import Derived.BigQuiet
import Derived.RegionTactic
import Derived.OpenShut
import Derived.Deep.Cut
import Derived.OwnWalk
import Derived.Deep.RegionLaw
namespace Go.Proofs.Ytfnoeligaapnbaa
open Go.RowKit
set_option linter.unusedVariables false
set_option linter.unusedSimpArgs false
attribute [local go_sem ↓] Go.wp_at_zero Go.wp_at_succ

def scells (s : Sup) : List Value := .int .u64 (s.gen.toNat : Int) :: .int .u32 (s.blocks.toNat : Int) :: (s.roots.map (fun r => .int .u32 (r.toNat : Int)) ++ s.marks.map (fun m => .int .u64 (m.toNat : Int)))
def sval (s : Sup) : Value := .agg (scells s).toArray
theorem scells_length (s : Sup) : (scells s).length = 18 := by simp [scells, s.hr, s.hm]
theorem scells_one (s : Sup) : ∀ u ∈ scells s, u.oneCell' = true := by
  intro u hu
  unfold scells at hu
  simp only [List.mem_cons, List.mem_append, List.mem_map] at hu
  rcases hu with rfl | rfl | ⟨x, _, rfl⟩ | ⟨x, _, rfl⟩ <;> rfl
theorem scells_gen (s : Sup) : (scells s)[0]? = some (.int .u64 (s.gen.toNat : Int)) := rfl
theorem scells_blocks (s : Sup) : (scells s)[1]? = some (.int .u32 (s.blocks.toNat : Int)) := rfl
theorem scells_root (s : Sup) (i : Nat) (h : i < 8) : (scells s)[2 + i]? = some (.int .u32 (fval s (2 + i) : Int)) := by
  have hr := s.hr
  unfold scells
  rw [show 2 + i = i + 1 + 1 by omega, List.getElem?_cons_succ, List.getElem?_cons_succ, List.getElem?_append_left (by simp; omega), List.getElem?_map, List.getElem?_eq_getElem (by omega)]
  unfold fval
  rw [if_neg (by omega), if_neg (by omega), if_pos (by omega), show i + 1 + 1 - 2 = i by omega, List.getD_eq_getElem?_getD, List.getElem?_eq_getElem (by omega)]
  rfl
theorem scells_mark (s : Sup) (i : Nat) (h : i < 8) : (scells s)[10 + i]? = some (.int .u64 (fval s (10 + i) : Int)) := by
  have hr := s.hr
  have hm := s.hm
  unfold scells
  rw [show 10 + i = i + 8 + 1 + 1 by omega, List.getElem?_cons_succ, List.getElem?_cons_succ, List.getElem?_append_right (by simp; omega), List.getElem?_map]
  simp only [List.length_map, hr]
  rw [show i + 8 - 8 = i by omega, List.getElem?_eq_getElem (by omega)]
  unfold fval
  rw [if_neg (by omega), if_neg (by omega), if_neg (by omega), show i + 8 + 1 + 1 - 10 = i by omega, List.getD_eq_getElem?_getD, List.getElem?_eq_getElem (by omega)]
  rfl
/-- One cell of a block that holds xs. -/
theorem MemC.gets {w : World} {P : Nat} {xs : List Value} (h : MemC w P 0 xs) (i : Nat) (v : Value) (hv : xs[i]? = some v) : w.cell? ⟨P, i, none⟩ = some v ∧ w.frozen? ⟨P, i, none⟩ = false := by
  obtain ⟨hi, rfl⟩ := List.getElem?_eq_some_iff.1 hv
  have h1 := h.at_.cell i hi
  have h2 := h.free i hi
  rw [Nat.zero_add] at h1 h2
  exact ⟨h1, h2⟩

def farB (b r : UInt32) : Bool := decide (b.toNat ≤ r.toNat)

theorem clos_far (r : UInt32) (s : Sup) (B : Nat) (w : World) (h : MemC w B 0 (scells s)) :
    Calls Try.prog 34 #[.int .u32 (r.toNat : Int), .pointer (some ⟨B, 0, none⟩)] w fun e w' => e = .returned (.bool (farB s.blocks r)) ∧ w = w' := by
  obtain ⟨c, _⟩ := h.gets 1 _ (scells_blocks s)
  clear h
  unfold farB
  obtain ⟨x, hx⟩ : ∃ x, x = r.toNat := ⟨_, rfl⟩
  obtain ⟨y, hy⟩ : ∃ y, y = s.blocks.toNat := ⟨_, rfl⟩
  rw [← hx, ← hy]
  rw [← hy] at c
  clear hx hy
  by_cases hl : y ≤ x
  · have h1 : (y : Int) ≤ (x : Int) := by omega
    have hf : decide (y ≤ x) = true := decide_eq_true hl
    rw [hf]
    go_enter Try.func34, Try.ntmps34
    go_wp2
    go_ret
    exact ⟨rfl, rfl⟩
  · have h1 : ¬ (y : Int) ≤ (x : Int) := by omega
    have hf : decide (y ≤ x) = false := decide_eq_false hl
    rw [hf]
    go_enter Try.func34, Try.ntmps34
    go_wp2
    go_ret
    exact ⟨rfl, rfl⟩

set_option maxHeartbeats 1000000 in
theorem ixfar_any (s : Sup) (B : Nat) (w : World) (h : MemC w B 0 (scells s)) :
    Calls Try.prog 47 #[.slice (some ⟨B, 2, none⟩) 8 8, .func (.func 34) #[] #[.pointer (some ⟨B, 0, none⟩)]] w fun e w' => (∃ i : Int, e = .returned (.int .i64 i) ∧ decide (0 ≤ i) = s.roots.any (farB s.blocks)) ∧ w = w' := by
  have HM := Lib.hid h; clear h
  have h8 := Lib.hid s.hr
  go_enter Try.func47, Try.ntmps47
  go_wp2_with fail
  go_loopw [8] (fun i wr => ∃ k : Nat, k ≤ 8 ∧ i = .int .i64 (k : Int) ∧ (∀ r ∈ s.roots.take k, farB s.blocks r = false) ∧ wr = w) (fun i _ => 8 - (intOf i).toNat)
  case atStart => exact ⟨0, Nat.zero_le _, rfl, by simp, rfl⟩
  case round =>
    obtain ⟨k, hk, rfl, ha, rfl⟩ := hrel
    have HA := Lib.hid ha; clear ha
    by_cases hlt : k < 8
    · obtain ⟨c0, _⟩ := HM.out.gets (2 + k) _ (scells_root s k hlt)
      have hlen : k < s.roots.length := by rw [h8.out]; exact hlt
      obtain ⟨x, hx⟩ : ∃ x, x = s.roots[k] := ⟨_, rfl⟩
      have e2 : fval s (2 + k) = x.toNat := by
        unfold fval
        rw [if_neg (by omega), if_neg (by omega), if_pos (by omega), show 2 + k - 2 = k by omega, List.getD_eq_getElem?_getD, List.getElem?_eq_getElem hlen, hx]
        rfl
      rw [e2] at c0
      have HT : Hid (s.roots.take (k + 1) = s.roots.take k ++ [x]) := Lib.hid (by rw [hx]; exact List.take_succ_eq_append_getElem hlen)
      have HMm : Hid (x ∈ s.roots) := Lib.hid (by rw [hx]; exact List.getElem_mem _)
      have HK := Lib.hid hlt
      clear hx e2 hlen
      have k0 : (0 : Int) ≤ (k : Int) := Int.natCast_nonneg _
      have k1 : (k : Int) < 8 := by omega
      cases hx0 : farB s.blocks x
      · have HP := Lib.hid hx0; clear hx0
        go_wp2_with fail
        refine (clos_far x s B _ HM.out).mono ?_
        rintro e w' ⟨rfl, rfl⟩
        rw [HP.out]
        go_wp2_with fail
        go_roundw
        case rel => exact ⟨k + 1, HK.out, by go_num, by rw [HT.out]; intro r hr; rcases List.mem_append.1 hr with h | h; exact HA.out r h; rw [List.mem_singleton] at h; rw [h]; exact HP.out, trivial⟩
        case measure => have := HK.out; simp [intOf]; omega
      · have HP := Lib.hid hx0; clear hx0
        go_wp2_with fail
        refine (clos_far x s B _ HM.out).mono ?_
        rintro e w' ⟨rfl, rfl⟩
        rw [HP.out]
        go_wp2_with fail
        go_ret
        refine ⟨⟨(k : Int), rfl, ?_⟩, rfl⟩
        rw [decide_eq_true (Int.natCast_nonneg k)]
        exact (List.any_eq_true.2 ⟨x, HMm.out, HP.out⟩).symm
    · obtain rfl : k = 8 := by omega
      go_wp2_with fail
      go_ret
      refine ⟨⟨-1, rfl, ?_⟩, rfl⟩
      rw [decide_eq_false (by decide)]
      have := HA.out
      rw [List.take_of_length_le (by rw [h8.out]; exact Nat.le_refl _)] at this
      exact (List.any_eq_false.2 (fun r hr => by rw [this r hr]; decide)).symm

theorem cffar_any (s : Sup) (B : Nat) (w : World) (h : MemC w B 0 (scells s)) :
    Calls Try.prog 35 #[.slice (some ⟨B, 2, none⟩) 8 8, .func (.func 34) #[] #[.pointer (some ⟨B, 0, none⟩)]] w fun e w' => e = .returned (.bool (s.roots.any (farB s.blocks))) ∧ w = w' := by
  have HM := Lib.hid h; clear h
  go_enter Try.func35, Try.ntmps35
  go_wp2_with fail
  refine (ixfar_any s B _ HM.out).mono ?_
  rintro e w' ⟨⟨i, rfl, hi⟩, rfl⟩
  have HI := Lib.hid hi; clear hi
  go_wp2_with fail
  go_ret
  rw [← HI.out]
  exact ⟨rfl, rfl⟩

set_option maxHeartbeats 2000000 in
theorem right_any (s : Sup) (w : World) : Calls Try.prog 19 #[sval s] w fun e w' => e = .returned (.bool (rightS s)) ∧ Below w.heap.size w w' := by
  obtain ⟨W0, hW0⟩ : ∃ W0 : World, W0 = w.alloc (.cells (scells s).toArray 27) := ⟨_, rfl⟩
  have B0 : Hid (Below w.heap.size w W0) := Lib.hid (by rw [hW0]; exact (Below.refl _ w).alloc (Nat.le_refl _) _)
  have S0 : Hid (MemC W0 w.heap.size 0 (scells s)) := Lib.hid (by rw [hW0]; exact MemC.new w (scells s) _)
  have HW := Lib.hid hW0; clear hW0
  obtain ⟨c0, _⟩ := S0.out.gets 0 _ (scells_gen s)
  obtain ⟨c1, _⟩ := S0.out.gets 1 _ (scells_blocks s)
  have hmf : ∀ (fn : Fn) (first cap : Array Value) (w : World), (Instr.makeFunc fn first cap).run Try.prog w = .ok (.func fn first cap) w := fun _ _ _ _ => rfl
  have HRS : Hid (rightS s = (decide (0 < s.gen.toNat) && (decide (16 ≤ s.blocks.toNat) && (decide (s.blocks.toNat ≤ 4096) && !s.roots.any (farB s.blocks))))) := Lib.hid rfl
  obtain ⟨x, hx⟩ : ∃ x, x = s.gen.toNat := ⟨_, rfl⟩
  obtain ⟨y, hy⟩ : ∃ y, y = s.blocks.toNat := ⟨_, rfl⟩
  rw [← hx] at c0 HRS
  rw [← hy] at c1 HRS
  clear hx hy
  unfold sval
  go_enter Try.func19, Try.ntmps19
  go_upto_region 1 with fail
  rw [← HW.out]
  by_cases h1 : x = 0
  · subst h1
    have HF : Hid (rightS s = false) := Lib.hid (by rw [HRS.out]; simp)
    go_wp2_with fail
    go_ret
    exact ⟨by rw [HF.out]; rfl, B0.out⟩
  · have g1 : (0 : Int) < (x : Int) := by omega
    by_cases h2 : 16 ≤ y
    · have g2 : (16 : Int) ≤ (y : Int) := by omega
      by_cases h3 : y ≤ 4096
      · have g3 : (y : Int) ≤ 4096 := by omega
        have HF : Hid (rightS s = !s.roots.any (farB s.blocks)) := Lib.hid (by rw [HRS.out, decide_eq_true (show 0 < x by omega), decide_eq_true h2, decide_eq_true h3]; simp)
        go_wp2_with fail
        refine (cffar_any s w.heap.size _ S0.out).mono ?_
        rintro e w' ⟨rfl, rfl⟩
        cases hfar : s.roots.any (farB s.blocks)
        · have HF2 : Hid (rightS s = true) := Lib.hid (by rw [HF.out, hfar]; rfl)
          clear hfar
          go_wp2_with fail
          go_ret
          exact ⟨by rw [HF2.out]; rfl, B0.out⟩
        · have HF2 : Hid (rightS s = false) := Lib.hid (by rw [HF.out, hfar]; rfl)
          clear hfar
          go_wp2_with fail
          go_ret
          exact ⟨by rw [HF2.out]; rfl, B0.out⟩
      · have g3 : ¬ (y : Int) ≤ 4096 := by omega
        have HF : Hid (rightS s = false) := Lib.hid (by rw [HRS.out, decide_eq_false h3]; simp)
        go_wp2_with fail
        go_ret
        exact ⟨by rw [HF.out]; rfl, B0.out⟩
    · have g2 : ¬ (16 : Int) ≤ (y : Int) := by omega
      have HF : Hid (rightS s = false) := Lib.hid (by rw [HRS.out, decide_eq_false h2]; simp)
      go_wp2_with fail
      go_ret
      exact ⟨by rw [HF.out]; rfl, B0.out⟩

def slotS (g : Nat) : Nat := g % 2
theorem slot_any (g : UInt64) (w : World) : Calls Try.prog 21 #[.int .u64 (g.toNat : Int)] w fun e w' => e = .returned (.int .i64 (slotS g.toNat : Int)) ∧ w = w' := by
  have hl := UInt64.toNat_lt g
  unfold slotS
  generalize g.toNat = x at *
  have hb : bits .and .u64 (x : Int) 1 = ((x % 2 : Nat) : Int) := by
    have h1 : bits .and .u64 (x : Int) ((1 : Nat) : Int) = ((x &&& 1 : Nat) : Int) := by
      show IntKind.u64.wrap ((BitVec.ofInt 64 (x : Int) &&& BitVec.ofInt 64 ((1 : Nat) : Int)).toNat : Int) = _
      rw [BitVec.toNat_and, ofInt_u64 x (by omega), ofInt_u64 1 (by omega)]
      rw [IntWalk.u64_in _ (by have := Nat.and_le_left (n := x) (m := 1); omega)]
    rw [Nat.and_one_is_mod] at h1
    exact h1
  have hr : x % 2 < 2 := Nat.mod_lt _ (by omega)
  generalize x % 2 = y at *
  have w1 : wrap64 (y : Int) = (y : Int) := by simp only [wrap64]; omega
  have w2 : IntKind.i64.wrap (y : Int) = (y : Int) := IntWalk.i64_in _ (by omega)
  clear hl hr
  go_enter Try.func21, Try.ntmps21
  go_wp2
  go_ret
  exact ⟨rfl, rfl⟩

end Go.Proofs.Ytfnoeligaapnbaa
