/-
  shelf.Encode.
-/
import Derived.Test.YtcljobkdihbflaaShC
import Derived.Deep.Cut
namespace Go.Proofs.Ytcljobkdihbflaa
open Go.RowKit
set_option linter.unusedVariables false

set_option maxHeartbeats 1000000 in
theorem encode_wrong (s : Shelf) (A : Option Addr) (n c : Nat) (w : World) (h : ReadsE w A n s.ents) (hn : n ≤ maxLen) (hr : rightB s = false) :
    Calls Try.prog 10 #[sval s A n c] w fun e w' => e = .returned (.tuple #[.slice none 0 0, .int .i64 40]) ∧ Below w.heap.size w w' := by
  have HR := Lib.hid h; clear h
  have HF := Lib.hid hr; clear hr
  unfold sval
  go_enter Try.func10, Try.ntmps10
  go_wp2_with fail
  have B0 := Lib.hid ((Below.refl w.heap.size w).alloc (Nat.le_refl _) (.cells #[.int .u8 (s.depth.toNat : Int), .int .u32 (s.next.toNat : Int), .slice A n c] 25))
  refine (right_any s A n c _ (HR.out.keep B0.out) hn).mono ?_
  rintro e w' ⟨rfl, hb⟩
  rw [HF.out]
  have B1 := Lib.hid (B0.out.trans (hb.mono B0.out.size)); clear hb
  go_wp2_with fail
  go_ret2
  exact ⟨rfl, B1.out⟩

def shead (s : Shelf) : List UInt8 := [s.depth] ++ [UInt8.ofNat s.ents.length] ++ be s.next.toNat 4
theorem shead_length (s : Shelf) : (shead s).length = 6 := by simp [shead, be_length]
def sw (s : Shelf) (k : Nat) : List UInt8 := shead s ++ eflat (s.ents.take k)
theorem sw_zero (s : Shelf) : sw s 0 = shead s := by simp [sw, eflat]
theorem sw_all (s : Shelf) : sw s s.ents.length = sbody s := by simp [sw, shead, sbody]
theorem sw_length (s : Shelf) (k : Nat) (h : k ≤ s.ents.length) : (sw s k).length = 6 + 12 * k := by
  unfold sw
  rw [List.length_append, shead_length, eflat_length, List.length_take]
  omega
theorem sw_step (s : Shelf) (k : Nat) (h : k < s.ents.length) : sw s k ++ be (s.ents.getD k e0).1.toNat 8 ++ be (s.ents.getD k e0).2.toNat 4 = sw s (k + 1) := by
  have e : s.ents.getD k e0 = s.ents[k] := by simp [List.getD_eq_getElem?_getD, List.getElem?_eq_getElem h]
  unfold sw
  rw [List.take_succ_eq_append_getElem h, eflat_append, eflat_one, e]
  simp [ebytes]

set_option maxHeartbeats 4000000 in
set_option maxRecDepth 100000 in
theorem encode_right (s : Shelf) (A : Option Addr) (n c : Nat) (w : World) (h : ReadsE w A n s.ents) (hr : rightB s = true) :
    Calls Try.prog 10 #[sval s A n c] w fun e w' => ∃ v, e = .returned (.tuple #[v, .int .i64 0]) ∧ Fresh8 w w' v (pageOf 3 (sbody s)) := by
  obtain ⟨i0, hi, hz0, hz1, hz2⟩ := info_parts u8info
  have h9 := (rightB_iff.1 hr).2.2.1
  have HL := Lib.hid h.1
  have hn : n ≤ 9 := by have := HL.out; omega
  clear h9
  have HR := Lib.hid h; clear h
  have HF := Lib.hid hr; clear hr
  obtain ⟨W0, hW0⟩ : ∃ W0 : World, W0 = w.alloc (.cells #[.int .u8 (s.depth.toNat : Int), .int .u32 (s.next.toNat : Int), .slice A n c] 25) := ⟨_, rfl⟩
  have B0 : Hid (Below w.heap.size w W0) := Lib.hid (by rw [hW0]; exact (Below.refl _ w).alloc (Nat.le_refl _) _)
  have z0 : w.heap.size + 1 = W0.heap.size := by rw [hW0]; simp
  have k0 : W0.cell? ⟨w.heap.size, 0, none⟩ = some (.int .u8 (s.depth.toNat : Int)) := by rw [hW0]; simp
  have k1 : W0.cell? ⟨w.heap.size, 1, none⟩ = some (.int .u32 (s.next.toNat : Int)) := by rw [hW0]; simp
  have k2 : W0.cell? ⟨w.heap.size, 2, none⟩ = some (.slice A n c) := by rw [hW0]; simp
  have HR0 := Lib.hid (HR.out.keep B0.out)
  have Z0 := Lib.hid z0; clear z0
  have K0 := Lib.hid k0; clear k0
  have K1 := Lib.hid k1; clear k1
  have K2 := Lib.hid k2; clear k2
  unfold sval
  go_enter Try.func10, Try.ntmps10
  go_wp2_with fail
  rw [← hW0]
  refine (right_any s A n c _ HR0.out (by simp only [maxLen]; omega)).mono ?_
  rintro e w1 ⟨rfl, hb⟩
  rw [HF.out]
  have B1 := Lib.hid (B0.out.trans (hb.mono B0.out.size))
  have HR1 := Lib.hid (HR0.out.keep hb)
  have k0 := (hb.cell (p := ⟨w.heap.size, 0, none⟩) (by have := Z0.out; show w.heap.size < _; omega)).trans K0.out
  have k1 := (hb.cell (p := ⟨w.heap.size, 1, none⟩) (by have := Z0.out; show w.heap.size < _; omega)).trans K1.out
  have k2 := (hb.cell (p := ⟨w.heap.size, 2, none⟩) (by have := Z0.out; show w.heap.size < _; omega)).trans K2.out
  have Z1 : Hid (w.heap.size < w1.heap.size) := Lib.hid (by have := hb.size; have := Z0.out; omega)
  clear hW0 hb HR0 K0 K1 K2 Z0 B0
  go_wp2_with (at_make; refine wpList_make_full _ rfl _ _ 29 rfl w1.heap.size 5 i0 (.int .u8 0) 1 Try.underlying29 hi hz0 hz1 .i64 .i64 (6 + 12 * (n : Int)) (6 + 12 * (n : Int)) (6 + 12 * n) rfl rfl (by omega) (by omega) (by rw [hz2]; omega) (by simp only [maxLen]; omega) (Nat.le_refl _) ?_)
  intro w2 hown hgrow
  have hb1 : Below w1.heap.size w1 w2 := (Below.refl _ w1).grown hgrow (Nat.le_refl _) (by intro k hk; cases hk)
  have hm := toList_made hown
  have hg2 : w1.heap.size < w2.heap.size := hm.lt
  obtain ⟨W3, hW3⟩ : ∃ W3 : World, W3 = w2.alloc (.cells #[.slice (some ⟨w1.heap.size, 0, none⟩) (6 + 12 * n) (6 + 12 * n), .int .i64 0] 47) := ⟨_, rfl⟩
  have hb2 : Below w2.heap.size w2 W3 := by rw [hW3]; exact (Below.refl _ w2).alloc (Nat.le_refl _) _
  have hp : PenW W3 w2.heap.size w1.heap.size (6 + 12 * n) [] := by
    refine ⟨?_, ?_, by omega, by simp⟩
    · rw [hW3]; exact MemC.new w2 [.slice (some ⟨w1.heap.size, 0, none⟩) (6 + 12 * n) (6 + 12 * n), .int .i64 0] 47
    · have : pad [] (6 + 12 * n) = List.replicate (6 + 12 * n) 0 := by simp [pad]
      rw [this]
      exact hm.keep hb2
  have HP := Lib.hid hp
  have hb3 : Below w1.heap.size w1 W3 := hb1.trans (hb2.mono hb1.size)
  have B3 := Lib.hid hb3
  have HR3 := Lib.hid (HR1.out.keep hb3)
  have hd8 := UInt8.toNat_lt s.depth
  have hx32 := UInt32.toNat_lt s.next
  have d1 : (s.depth.toNat : Int) < 256 := by omega
  have d2 : (s.next.toNat : Int) < 4294967296 := by omega
  have G2 := Lib.hid hg2
  have ZW : Hid (w.heap.size ≠ w2.heap.size ∧ w.heap.size ≠ w1.heap.size) := Lib.hid (by have := Z1.out; omega)
  have q0 := Lib.hid ((hb3.cell (p := ⟨w.heap.size, 0, none⟩) Z1.out).trans k0)
  have q1 := Lib.hid ((hb3.cell (p := ⟨w.heap.size, 1, none⟩) Z1.out).trans k1)
  have q2 := Lib.hid ((hb3.cell (p := ⟨w.heap.size, 2, none⟩) Z1.out).trans k2)
  have HW3 := Lib.hid hW3
  clear hW3 hown hgrow hi hz0 hz1 hz2 i0 hb1 hm hp hb2 hb3 hg2 hd8 hx32
  clear k0 k1 k2
  go_upto_region 5 with fail
  rw [← HW3.out]
  clear HW3
  have k0 := q0.out
  have k1 := q1.out
  have k2 := q2.out
  clear q0 q1 q2
  go_wp2_with fail
  refine (penput w2.heap.size w1.heap.size (6 + 12 * n) [] 1 s.depth.toNat _ HP.out (by omega) (by omega) (by omega) (by simp; omega) (by omega)).mono ?_
  rintro e w4 ⟨⟨v, rfl⟩, hp, ho⟩
  have HP4 := Lib.hid hp
  have B4 := Lib.hid (B3.out.trans (ho.below (Nat.le_of_lt G2.out) (Nat.le_refl _)))
  have k1 := (ho.cell (b := w.heap.size) (o := 1) ZW.out.1 ZW.out.2).trans k1
  have k2 := (ho.cell (b := w.heap.size) (o := 2) ZW.out.1 ZW.out.2).trans k2
  clear hp ho HP B3 HR3 k0
  go_wp2_with fail
  refine (penput w2.heap.size w1.heap.size (6 + 12 * n) ([] ++ be s.depth.toNat 1) 1 n _ HP4.out (by omega) (by omega) (by omega) (by simp [be_length]; omega) (by omega)).mono ?_
  rintro e w5 ⟨⟨v, rfl⟩, hp, ho⟩
  have HP5 := Lib.hid hp
  have B5 := Lib.hid (B4.out.trans (ho.below (Nat.le_of_lt G2.out) (Nat.le_refl _)))
  have k1 := (ho.cell (b := w.heap.size) (o := 1) ZW.out.1 ZW.out.2).trans k1
  have k2 := (ho.cell (b := w.heap.size) (o := 2) ZW.out.1 ZW.out.2).trans k2
  clear hp ho HP4 B4
  go_wp2_with fail
  refine (penput w2.heap.size w1.heap.size (6 + 12 * n) ([] ++ be s.depth.toNat 1 ++ be n 1) 4 s.next.toNat _ HP5.out (by omega) (by omega) (by omega) (by simp [be_length]) (by omega)).mono ?_
  rintro e w6 ⟨⟨v, rfl⟩, hp, ho⟩
  have ew : [] ++ be s.depth.toNat 1 ++ be n 1 ++ be s.next.toNat 4 = sw s 0 := by
    rw [sw_zero, shead, ← HL.out]
    have : be s.depth.toNat 1 = [s.depth] := by simp [be]
    rw [this]
    rfl
  rw [ew] at hp
  have HP6 := Lib.hid hp
  have B6 := Lib.hid (B5.out.trans (ho.below (Nat.le_of_lt G2.out) (Nat.le_refl _)))
  have k2 := (ho.cell (b := w.heap.size) (o := 2) ZW.out.1 ZW.out.2).trans k2
  clear hp ho HP5 B5 ew k1
  go_wp2_with fail
  have K2 := Lib.hid k2
  clear k2
  go_loopw [40] (fun i wr => ∃ k : Nat, k ≤ n ∧ i = .int .i64 k ∧ PenW wr w2.heap.size w1.heap.size (6 + 12 * n) (sw s k) ∧ Below w1.heap.size w1 wr) (fun i _ => n - (intOf i).toNat)
  case atStart => exact ⟨0, Nat.zero_le _, rfl, HP6.out, B6.out⟩
  case round =>
    clear HP6 B6 K2
    obtain ⟨k, hk, rfl, hp, hb⟩ := hrel
    have HP := Lib.hid hp; clear hp
    have HB := Lib.hid hb; clear hb
    have hl := HL.out
    by_cases hlt : k < n
    · obtain ⟨b, o, rfl, hbl, c0, c1⟩ := (HR1.out.keep HB.out).getD (k := k) hlt
      have hx1 := UInt64.toNat_lt (s.ents.getD k e0).1
      have hx2 := UInt32.toNat_lt (s.ents.getD k e0).2
      have hst := sw_step s k (by omega)
      have hsl := sw_length s k (by omega)
      obtain ⟨x1, hX1⟩ : ∃ x, x = (s.ents.getD k e0).1.toNat := ⟨_, rfl⟩
      obtain ⟨x2, hX2⟩ : ∃ x, x = (s.ents.getD k e0).2.toNat := ⟨_, rfl⟩
      rw [← hX1] at c0 hx1 hst
      rw [← hX2] at c1 hx2 hst
      clear hX1 hX2 hl
      have HST := Lib.hid hst; clear hst
      have HSL := Lib.hid hsl; clear hsl
      have HX1 := Lib.hid hx1; clear hx1
      have HX2 := Lib.hid hx2; clear hx2
      obtain ⟨W7, hW7⟩ : ∃ W7 : World, W7 = wr.alloc (.cells #[.int .u64 (x1 : Int), .int .u32 (x2 : Int)] 37) := ⟨_, rfl⟩
      have hb7 : Below wr.heap.size wr W7 := by rw [hW7]; exact (Below.refl _ _).alloc (Nat.le_refl _) _
      have q0 : W7.cell? ⟨wr.heap.size, 0, none⟩ = some (.int .u64 (x1 : Int)) := by rw [hW7]; simp
      have q1 : W7.cell? ⟨wr.heap.size, 1, none⟩ = some (.int .u32 (x2 : Int)) := by rw [hW7]; simp
      have HP7 := Lib.hid (HP.out.keep hb7)
      have B7 := Lib.hid (HB.out.trans (hb7.mono HB.out.size))
      have hz : w2.heap.size < wr.heap.size ∧ w1.heap.size < wr.heap.size := ⟨HP.out.pen.at_.lt, HP.out.mem.lt⟩
      have HZ := Lib.hid hz
      have HW7 := Lib.hid hW7
      have Q0 := Lib.hid q0
      have Q1 := Lib.hid q1
      have i1 : (0 : Int) ≤ (k : Int) := by omega
      clear hb7 q0 q1 hW7 hz HP HB
      go_upto_region 11 with fail
      rw [← HW7.out]
      have q0 := Q0.out
      have q1 := Q1.out
      clear HW7 Q0 Q1 c0 c1
      go_wp2_with fail
      refine (penput w2.heap.size w1.heap.size (6 + 12 * n) (sw s k) 8 x1 _ HP7.out (by omega) (by omega) (by omega) (by rw [HSL.out]; omega) HX1.out).mono ?_
      rintro e w8 ⟨⟨v, rfl⟩, hp, ho⟩
      have HP8 := Lib.hid hp
      have B8 := Lib.hid (B7.out.trans (ho.below (Nat.le_of_lt G2.out) (Nat.le_refl _)))
      have q1 := (ho.cell (b := wr.heap.size) (o := 1) (by have := HZ.out; omega) (by have := HZ.out; omega)).trans q1
      have x2l : (x2 : Int) < 4294967296 := by have := HX2.out; omega
      clear hp ho HP7 B7 q0
      go_wp2_with fail
      refine (penput w2.heap.size w1.heap.size (6 + 12 * n) (sw s k ++ be x1 8) 4 x2 _ HP8.out (by omega) (by omega) (by omega) (by rw [List.length_append, be_length, HSL.out]; omega) HX2.out).mono ?_
      rintro e w9 ⟨⟨v, rfl⟩, hp, ho⟩
      rw [HST.out] at hp
      have HP9 := Lib.hid hp
      have B9 := Lib.hid (B8.out.trans (ho.below (Nat.le_of_lt G2.out) (Nat.le_refl _)))
      clear hp ho HP8 B8 q1
      go_wp2_with fail
      go_roundw
      case rel => exact ⟨k + 1, by omega, by go_num, HP9.out, B9.out⟩
      case measure => simp [intOf]; omega
    · obtain rfl : k = n := by omega
      have hsw : pad (sw s k) (6 + 12 * k) = sbody s := by
        have e1 : sw s k = sbody s := by rw [← hl]; exact sw_all s
        have e2 : (sbody s).length = 6 + 12 * k := by rw [sbody_length, hl]
        rw [e1, ← e2, pad_all]
      have hm := HP.out.mem
      rw [hsw] at hm
      have HM := Lib.hid hm
      have p0 := HP.out.pen.at_.cell 0 (by simp)
      simp only [Nat.zero_add, List.getElem_cons_zero] at p0
      clear hm hsw hl
      go_wp2_with fail
      refine (seal_any _ (6 + 12 * k) _ 3 (sbody s) _ HM.out.reads (by omega)).mono ?_
      rintro e w9 ⟨v, rfl, hF⟩
      have HFr := Lib.hid (hF.from (B1.out.trans (HB.out.mono B1.out.size)))
      clear hF
      go_wp2_with fail
      go_ret2
      exact ⟨v, rfl, HFr.out⟩

/-- What a page holds, and what is said of it. -/
def encL (s : Shelf) : List UInt8 := if rightB s = true then pageOf 3 (sbody s) else []
def encE (s : Shelf) : Int := if rightB s = true then 0 else 40

theorem encode_u (s : Shelf) (A : Option Addr) (n c : Nat) (w : World) (h : ReadsE w A n s.ents) (hn : n ≤ maxLen) :
    Calls Try.prog 10 #[sval s A n c] w fun e w' => RetR w w' (fun v => .tuple #[v, .int .i64 (encE s)]) (encL s) e := by
  unfold encL encE
  cases hok : rightB s
  · simp only [Bool.false_eq_true, if_false]
    exact (encode_wrong s A n c w h hn hok).mono fun e w' ⟨he, hw⟩ => by subst he; exact ⟨_, _, _, rfl, Reads8.nil _ _, Nat.le_refl _, hw⟩
  · simp only [if_true]
    exact (encode_right s A n c w h hok).mono fun e w' ⟨v, he, hF⟩ => by subst he; exact hF.ret (fun v => .tuple #[v, .int .i64 0])

end Go.Proofs.Ytcljobkdihbflaa
