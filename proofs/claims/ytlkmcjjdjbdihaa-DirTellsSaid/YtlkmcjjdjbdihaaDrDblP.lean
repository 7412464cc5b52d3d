/-
  DirDouble: the plain law.
-/
import Derived.Test.YtlkmcjjdjbdihaaDrJ
namespace Go.Proofs.Ytlkmcjjdjbdihaa
open Go.RowKit Go.Maps
set_option linter.unusedVariables false

theorem wrap_small {n : Nat} (h : n ≤ 512) : wrap64 (n : Int) = (n : Int) ∧ IntKind.i64.wrap (n : Int) = (n : Int) := ⟨by simp only [wrap64]; omega, IntWalk.i64_in _ (by omega)⟩
theorem ReadsW.at' {w : World} {b o n k : Nat} {l : List UInt16} (h : ReadsW w (some ⟨b, o, none⟩) n l) (hk : k < n) : w.cell? ⟨b, o + k, none⟩ = some (.int .u16 ((at_ l k).toNat : Int)) := by
  obtain ⟨b', o', e, _, hc⟩ := h.getD hk
  injection e with e
  injection e with e1 e2
  subst e1 e2
  exact hc
theorem at_told (f : Nat → UInt16) (m i : Nat) (h : i < m) : at_ (toldL f m) i = f i := by
  unfold at_ toldL
  rw [List.getD_eq_getElem?_getD, List.getElem?_map, List.getElem?_range h]
  rfl
theorem list_at {a b : List UInt16} (h : a.length = b.length) (g : ∀ i, i < a.length → at_ a i = at_ b i) : a = b := by
  refine List.ext_getElem h fun i h1 h2 => ?_
  have := g i h1
  simp only [at_, List.getD_eq_getElem?_getD, List.getElem?_eq_getElem h1, List.getElem?_eq_getElem h2, Option.getD_some] at this
  exact this

theorem u8_up {x : UInt8} (h : x.toNat < 8) : (x + 1).toNat = x.toNat + 1 := by
  rw [UInt8.toNat_add]
  simp
  omega
theorem half_div (i j : Nat) : i / 2 ^ (j + 1) = i / 2 / 2 ^ j := by
  rw [Nat.pow_succ, Nat.mul_comm, Nat.div_div_eq_div_mul]

theorem double_at {d : Dir} {D : Nat} (hR : RightD d D) (i : Nat) (hi : i < 2 ^ (D + 1)) : at_ (doubleD d).slots i = at_ d.slots (i / 2) := by
  unfold doubleD
  rw [hR.dep]
  exact at_told _ _ _ hi
theorem double_fits {d : Dir} {D s k : Nat} (hR : RightD d D) (hs : s < 2 ^ (D + 1)) (hk : k ≤ D) (h : Fits d.slots D (s / 2) k) : Fits (doubleD d).slots (D + 1) s k := by
  intro i hi
  have e : (2 : Nat) ^ (D + 1) = 2 * 2 ^ D := by rw [Nat.pow_succ]; omega
  rw [double_at hR i hi, double_at hR s hs, h (i / 2) (by omega), show D + 1 - k = D - k + 1 by omega, half_div, half_div]
theorem double_right {d : Dir} {D : Nat} (hR : RightD d D) (h8 : D < 8) : RightD (doubleD d) (D + 1) := by
  have e : (2 : Nat) ^ (D + 1) = 2 * 2 ^ D := by rw [Nat.pow_succ]; omega
  refine ⟨?_, by omega, ?_, ?_, ?_⟩
  · show (d.depth + 1).toNat = D + 1
    rw [u8_up (by rw [hR.dep]; exact h8), hR.dep]
  · unfold doubleD
    rw [toldL_length, hR.dep]
  · intro s hs
    rw [double_at hR s hs]
    exact hR.ok _ (by omega)
  · intro s hs
    obtain ⟨k, hk, hf⟩ := hR.fit (s / 2) (by omega)
    exact ⟨k, by omega, double_fits hR hs hk hf⟩
theorem double_halve {d : Dir} {D : Nat} (hR : RightD d D) (h8 : D < 8) : halveD (doubleD d) = d := by
  have hd := (double_right hR h8).dep
  refine dir_eq ?_ ?_
  · show d.depth + 1 - 1 = d.depth
    rw [UInt8.add_sub_cancel]
  · show toldL _ _ = d.slots
    rw [hd]
    refine list_at (by rw [toldL_length, hR.len]; rfl) fun i hi => ?_
    rw [toldL_length, show D + 1 - 1 = D by omega] at hi
    rw [at_told _ _ _ (by rw [show D + 1 - 1 = D by omega]; exact hi), double_at hR _ (by rw [Nat.pow_succ]; omega), Nat.mul_div_cancel_left _ (by omega)]
theorem right_of {d : Dir} {D : Nat} (hR : RightD d D) : rightB d = true := rightB_iff.2 (by rw [hR.dep]; exact hR)
theorem double_halveE {d : Dir} {D : Nat} (hR : RightD d D) (h8 : D < 8) : halveE (doubleD d) = 0 := by
  have hR2 := double_right hR h8
  unfold halveE
  rw [right_of hR2, if_pos rfl, if_neg]
  intro h
  obtain ⟨r, hr, h1⟩ := List.any_eq_true.1 h
  have h1 := of_decide_eq_true h1
  have h2 := runs_each _ 0 r hr
  have hl := hR2.len
  have e : (2 : Nat) ^ (D + 1) = 2 * 2 ^ D := by rw [Nat.pow_succ]; omega
  obtain ⟨k, hk, hf⟩ := hR.fit (r.1 / 2) (by omega)
  have hf2 := double_fits hR (by omega) hk hf
  have h3 := (run_of_fit hl (by omega) hr hf2).2
  rw [show D + 1 - k = D - k + 1 by omega, Nat.pow_succ] at h3
  have := pow_pos2 (D - k)
  omega
theorem slot_half (D : Nat) (x : UInt64) (h8 : D < 8) : slotOf (D + 1) x / 2 = slotOf D x := by
  unfold slotOf
  rw [show 64 - D = 64 - (D + 1) + 1 by omega, Nat.pow_succ, Nat.div_div_eq_div_mul]

end Go.Proofs.Ytlkmcjjdjbdihaa
