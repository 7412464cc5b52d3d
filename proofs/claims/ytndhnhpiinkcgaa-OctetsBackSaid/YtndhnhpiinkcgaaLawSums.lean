/-
  OctetsSums: the walk.
-/
import Derived.Test.YtndhnhpiinkcgaaLawOwn
import Derived.ChangeAlike
namespace Go.Proofs.Ytndhnhpiinkcgaa
open Go.RowKit
set_option linter.unusedVariables false

theorem below_dN {B : Nat} {a w : World} (h : Below B a w) (k : Nat) : Below B a (w.drewN k) := ⟨h.os, h.tape, h.output, h.size, h.block⟩

theorem sum8_swap (l : List UInt8) (k : Nat) (x y : UInt8) (hk : k + 1 < l.length) (hx : l[k]? = some x) (hy : l[k + 1]? = some y) (hne : x ≠ y) : sum8 ((l.set k y).set (k + 1) x) ≠ sum8 l := by
  obtain ⟨_, hx'⟩ := List.getElem?_eq_some_iff.1 hx
  obtain ⟨_, hy'⟩ := List.getElem?_eq_some_iff.1 hy
  have e1 : l = l.take k ++ x :: y :: l.drop (k + 2) := by
    have h1 := self_split l k (by omega)
    have h2 : l.drop (k + 1) = l[k + 1] :: l.drop (k + 2) := (List.getElem_cons_drop ..).symm
    rw [h2, hx', hy'] at h1
    exact h1
  have hlk : (l.take k).length = k := by simp; omega
  have e2 : (l.set k y).set (k + 1) x = l.take k ++ y :: x :: l.drop (k + 2) := by
    generalize ha : l.take k = a at e1 hlk
    generalize l.drop (k + 2) = b at e1
    subst e1
    subst hlk
    rw [List.set_append_right _ _ (Nat.le_refl _), Nat.sub_self, List.set_cons_zero, List.set_append_right _ _ (by omega), show a.length + 1 - a.length = 1 by omega]
    rfl
  rw [e2]
  intro e
  exact sum8_two (l.take k) (l.drop (k + 2)) y x (Ne.symm hne) (by rw [e]; exact congrArg sum8 e1)

theorem sums_out (A : Option Addr) (n c : Nat) (at_ by_ : Int) (w : World) (hn : n ≤ maxLen) (h : n = 0 ∨ 300 < n) :
    Calls Try.prog 7 #[.slice A n c, .int .u16 at_, .int .u8 by_] w fun e w' => e = .returned (.bool true) ∧ Below w.heap.size w w' := by
  unfold maxLen at hn
  rcases h with h | h
  · have hd : ((n : Int) == 0) = true := by simp; omega
    clear h
    go_enter Try.func7, Try.ntmps7
    go_wp2_with (go_at_call 9; refine (awake_any _).mono ?_; rintro e w' ⟨rfl, hb⟩)
    go_ret
    exact ⟨rfl, hb⟩
  · have hd : ((n : Int) == 0) = false := by simp; omega
    go_enter Try.func7, Try.ntmps7
    go_wp2_with (go_at_call 9; refine (awake_any _).mono ?_; rintro e w' ⟨rfl, hb⟩)
    go_ret
    exact ⟨rfl, hb⟩

set_option maxHeartbeats 2000000 in
set_option maxRecDepth 100000 in
theorem sums_in (b o n c : Nat) (at_ by_ : Int) (l : List UInt8) (w : World) (h : Reads8 w (some ⟨b, o, none⟩) n l) (hnc : n ≤ c) (h0 : 0 < n) (h300 : n ≤ 300) (ha0 : 0 ≤ at_) (ha1 : at_ ≤ 65535) (hb0 : 0 ≤ by_) (hb1 : by_ ≤ 255) :
    Calls Try.prog 7 #[.slice (some ⟨b, o, none⟩) n c, .int .u16 at_, .int .u8 by_] w fun e w' => e = .returned (.bool true) ∧ Below w.heap.size w w' := by
  have hl := Lib.hid h.1
  obtain ⟨b', o', e, hb, hcell⟩ := h.2 h0
  injection e with e
  injection e with e1 e2
  subst e1; subst e2
  have HC := Lib.hid hcell; clear hcell
  have HR := Lib.hid h; clear h
  have hd0 : ((n : Int) == 0) = false := by simp; omega
  obtain ⟨k, hk⟩ : ∃ k : Nat, at_ % (n : Int) = (k : Int) := ⟨(at_ % (n : Int)).toNat, by
    have := Int.emod_nonneg at_ (show (n : Int) ≠ 0 by omega)
    omega⟩
  have hkn : k < n := by have := Int.emod_lt_of_pos at_ (show 0 < (n : Int) by omega); omega
  have hy0 : 0 ≤ by_ % 255 := Int.emod_nonneg _ (by omega)
  have hy1 : by_ % 255 < 255 := Int.emod_lt_of_pos _ (by omega)
  have HK := Lib.hid hk; clear hk
  obtain ⟨x, hx⟩ : ∃ x, l[k]? = some x := ⟨_, List.getElem?_eq_getElem (by have := hl.out; omega)⟩
  have hxl := UInt8.toNat_lt x
  have HX := Lib.hid hx; clear hx
  have cbk : w.cell? ⟨b, o + k, none⟩ = some (.int .u8 (x.toNat : Int)) := by
    obtain ⟨hlt, e⟩ := List.getElem?_eq_some_iff.1 HX.out
    rw [HC.out k hlt, e]
  have CBK := Lib.hid cbk; clear cbk
  have hpos : (1 : Int) ≤ n := by omega
  go_enter Try.func7, Try.ntmps7
  go_wp2_with fail
  rw [HK.out]
  refine (sum_any _ n c l _ HR.out (by simp only [maxLen]; omega)).mono ?_
  rintro e w' ⟨rfl, rfl⟩
  have hsl := sum8_lt l
  go_wp2_with fail
  refine (again_any _ n c l _ HR.out (by simp only [maxLen]; omega)).mono ?_
  rintro e w1 ⟨v, rfl, hF⟩
  obtain ⟨g, d, rfl, hg, hd, hdm, hM, hB⟩ := hF.open_ hl.out
  have M1 := Lib.hid hM
  have B1 := Lib.hid hB
  have R1 := Lib.hid (HR.out.keep hB)
  have CBK1 := Lib.hid ((hB.cell (p := ⟨b, o + k, none⟩) hb).trans CBK.out)
  have hgw : w.heap.size ≤ g := hg
  have hgb : b ≠ g := by omega
  clear hM hB hF HR CBK
  obtain ⟨cx, fx⟩ := M1.out.byte k x HX.out
  go_wp2_with fail
  obtain ⟨z, hz, ez⟩ := byte_bump x (by_ % 255) hy0 hy1
  rw [ez]
  clear ez cx fx
  have M2 := Lib.hid (M1.out.set k z (by omega))
  have B2 := Lib.hid (B1.out.setCell (p := ⟨g, k, none⟩) hgw (.int .u8 (z.toNat : Int)))
  have R2 := Lib.hid ((Wrote.set w1 g k (.int .u8 (z.toNat : Int))).farR R1.out (by intro a e; injection e with e; subst e; exact hgb))
  have CBK2 : Hid ((w1.setCell ⟨g, k, none⟩ (.int .u8 (z.toNat : Int))).cell? ⟨b, o + k, none⟩ = some (.int .u8 (x.toNat : Int))) := by
    have := World.cell?_setCell_other w1 ⟨g, k, none⟩ ⟨b, o + k, none⟩ (.int .u8 (z.toNat : Int)) (fun e => by injection e with e1 _; exact hgb e1.symm)
    exact Lib.hid (this.trans CBK1.out)
  have hlk : k < l.length := by have := hl.out; omega
  have hne : sum8 (l.set k z) ≠ sum8 l := sum8_set l k z hlk (by rw [(List.getElem?_eq_some_iff.1 HX.out).2]; exact hz)
  clear M1 B1 R1 CBK1 hz hlk
  generalize (w1.setCell ⟨g, k, none⟩ (.int .u8 (z.toNat : Int))) = w2 at M2 B2 R2 CBK2 ⊢
  refine (sum_any _ n d _ _ M2.out.reads (by simp only [maxLen]; omega)).mono ?_
  rintro e w' ⟨rfl, rfl⟩
  have hnq : ((sum8 (l.set k z) : Int) == (sum8 l : Int)) = false := by simp; omega
  clear hne M2
  generalize sum8 (l.set k z) = S2 at hnq ⊢
  generalize hS : sum8 l = S1 at *
  have HS := Lib.hid hS; clear hS
  go_wp2_with fail
  clear hnq
  by_cases hlast : k + 1 = n
  · have hq : (((k : Int) + 1) == (n : Int)) = true := by simp; omega
    clear hlast
    go_quiet (fail)
    go_wp2_with fail
    refine (awake_any _).mono ?_
    rintro e w' ⟨rfl, hb⟩
    have B3 := Lib.hid ((below_dN B2.out _).trans (hb.mono B2.out.size)); clear hb
    go_wp2_with fail
    go_ret
    exact ⟨rfl, B3.out⟩
  · have hq : (((k : Int) + 1) == (n : Int)) = false := by simp; omega
    have hk1 : (k : Int) + 1 < n := by omega
    have hk0 : (0 : Int) ≤ (k : Int) + 1 := by omega
    obtain ⟨y, hy⟩ : ∃ y, l[k + 1]? = some y := ⟨_, List.getElem?_eq_getElem (by have := hl.out; omega)⟩
    have hyl := UInt8.toNat_lt y
    have HY := Lib.hid hy; clear hy
    have cx := CBK2.out
    have cy : w2.cell? ⟨b, o + (k + 1), none⟩ = some (.int .u8 (y.toNat : Int)) := by
      obtain ⟨b', o', e, _, hc⟩ := R2.out.2 h0
      injection e with e
      injection e with e1 e2
      subst e1; subst e2
      obtain ⟨hlt, e⟩ := List.getElem?_eq_some_iff.1 HY.out
      rw [hc (k + 1) hlt, e]
    have CY := Lib.hid cy
    by_cases hxy : x = y
    · have hqq : ((x.toNat : Int) == (y.toNat : Int)) = true := by rw [hxy]; simp
      clear hxy
      go_quiet (fail)
      go_wp2_with fail
      refine (awake_any _).mono ?_
      rintro e w' ⟨rfl, hb⟩
      have B3 := Lib.hid ((below_dN B2.out _).trans (hb.mono B2.out.size)); clear hb
      go_wp2_with fail
      go_ret
      exact ⟨rfl, B3.out⟩
    · have hqq : ((x.toNat : Int) == (y.toNat : Int)) = false := by
        simp
        intro e
        exact hxy (UInt8.toNat_inj.1 (by omega))
      go_quiet (fail)
      clear cx cy
      go_wp2_with fail
      refine (again_any _ n c l _ (R2.out.drewN _) (by simp only [maxLen]; omega)).mono ?_
      rintro e w3 ⟨v, rfl, hF⟩
      obtain ⟨gt, dt, rfl, hgt, hdt, hdtm, hM, hB⟩ := hF.open_ hl.out
      have M3 := Lib.hid hM
      have B3 := Lib.hid ((below_dN B2.out _).trans (hB.mono B2.out.size))
      have hgtw : w.heap.size ≤ gt := Nat.le_trans B2.out.size hgt
      have hb2 : b < w2.heap.size := Nat.lt_of_lt_of_le hb B2.out.size
      have hgtb : b ≠ gt := by
        have : w2.heap.size ≤ gt := hgt
        omega
      have cx3 : w3.cell? ⟨b, o + k, none⟩ = some (.int .u8 (x.toNat : Int)) := (hB.cell (p := ⟨b, o + k, none⟩) hb2).trans CBK2.out
      have cy3 : w3.cell? ⟨b, o + (k + 1), none⟩ = some (.int .u8 (y.toNat : Int)) := (hB.cell (p := ⟨b, o + (k + 1), none⟩) hb2).trans CY.out
      clear hM hB hF
      obtain ⟨tx, fx⟩ := M3.out.byte k x HX.out
      obtain ⟨ty, fy⟩ := M3.out.byte (k + 1) y HY.out
      go_wp2_with fail
      go_region
      go_wp2_with fail
      clear cx3 cy3 tx ty fx fy
      have M4 := Lib.hid ((M3.out.set k y (by omega)).set (k + 1) x (by omega)).drew
      have B4 := Lib.hid ((B3.out.setCell (p := ⟨gt, k, none⟩) hgtw (.int .u8 (y.toNat : Int))).setCell (p := ⟨gt, k + 1, none⟩) hgtw (.int .u8 (x.toNat : Int))).drew
      have hne : sum8 ((l.set k y).set (k + 1) x) ≠ S1 := by
        rw [← HS.out]
        exact sum8_swap l k x y (by have := hl.out; omega) HX.out HY.out hxy
      have hnq : ((sum8 ((l.set k y).set (k + 1) x) : Int) != (S1 : Int)) = true := by simp; omega
      generalize (((w3.setCell ⟨gt, k, none⟩ (.int .u8 (y.toNat : Int))).setCell ⟨gt, k + 1, none⟩ (.int .u8 (x.toNat : Int))).drew) = w4 at M4 B4 ⊢
      have hs4 := sum8_lt ((l.set k y).set (k + 1) x)
      refine (sum_any _ n dt _ _ M4.out.reads (by simp only [maxLen]; omega)).mono ?_
      rintro e w' ⟨rfl, rfl⟩
      clear hne M4
      generalize sum8 ((l.set k y).set (k + 1) x) = S4 at hnq hs4 ⊢
      go_wp2_with fail
      refine (awake_any _).mono ?_
      rintro e w' ⟨rfl, hb⟩
      have B5 := Lib.hid (B4.out.trans (hb.mono B4.out.size)); clear hb
      go_wp2_with fail
      go_ret
      exact ⟨rfl, B5.out⟩

theorem lawSums (A : Option Addr) (n c : Nat) (at_ by_ : Int) (l : List UInt8) (w : World) (h : Reads8 w A n l) (hnc : n ≤ c) (hcm : c ≤ maxLen) (ha : (Lit.int .u16 at_).wf = true) (hb : (Lit.int .u8 by_).wf = true) :
    Calls Try.prog 7 #[.slice A n c, .int .u16 at_, .int .u8 by_] w fun e w' => e = .returned (.bool true) ∧ Below w.heap.size w w' := by
  have h1 : 0 ≤ at_ ∧ at_ ≤ 65535 := by
    simp [Lit.wf, IntKind.min, IntKind.max, IntKind.signed, IntKind.bits] at ha
    omega
  have h2 := bounds_u8 hb
  by_cases h0 : n = 0 ∨ 300 < n
  · exact sums_out A n c at_ by_ w (Nat.le_trans hnc hcm) h0
  · obtain ⟨b, o, rfl, _⟩ := h.2 (by omega)
    exact sums_in b o n c at_ by_ l w h hnc (by omega) (by omega) h1.1 h1.2 h2.1 h2.2

end Go.Proofs.Ytndhnhpiinkcgaa
