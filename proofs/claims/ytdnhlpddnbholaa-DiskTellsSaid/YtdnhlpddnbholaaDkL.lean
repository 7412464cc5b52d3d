/-
  catchmentlaw02.says, awake.
-/
import Derived.Test.YtdnhlpddnbholaaDkK
namespace Go.Proofs.Ytdnhlpddnbholaa
open Go.RowKit
set_option linter.unusedVariables false
set_option linter.unusedSimpArgs false
attribute [local go_sem ↓] Go.wp_at_zero Go.wp_at_succ

theorem DiskAt.qlt {F : Nat → Prop} {w : World} {p q : Nat} {D : Dk} (h : DiskAt F w p q D) : q < w.heap.size := by
  obtain ⟨c, v, h⟩ := h
  exact h.lt.2
section
variable {F : Nat → Prop} {p q : Nat} {D : Dk}
theorem says_yes (w : World) (h : DiskAt F w p q D) (k : Nat) (hd : D.down = false) (hk : k < D.blks.length) (B : Option Addr) (n c : Nat) (l : List UInt8) (hr : Reads8 w B n l) (hn : n ≤ 128) (r : Bool) (hres : same8 ((readB D k).take n) l = r) :
    Calls Try.prog 27 #[.pointer (some ⟨p, 0, none⟩), .int .i64 (k : Int), .slice B n c] w fun e w' => e = .returned (.bool r) ∧ Below w.heap.size w w' := by
  have HD := Lib.hid h
  have HR := Lib.hid hr
  have HRES := Lib.hid hres
  have n1 : (n : Int) ≤ 128 := by omega
  have n0 : (0 : Int) ≤ (n : Int) := by omega
  clear h hr hres
  go_enter Try.func27, Try.ntmps27
  go_wp2_with fail
  refine (read_yes _ HD.out k hd hk).mono ?_
  rintro e w1 ⟨g, rfl, hg, hm, hb⟩
  have B1 := Lib.hid hb
  have M1 := Lib.hid hm
  have R1 := Lib.hid (HR.out.keep hb)
  clear hm hb hg
  go_wp2_with fail
  have hs : Reads8 w1 (some ⟨g, 0, none⟩) n ((readB D k).take n) := by
    have := (M1.out.sub 0 n (by omega)).reads
    simpa using this
  refine (equal_any _ _ n n 128 c _ _ _ hs R1.out).mono ?_
  rintro e w' ⟨rfl, rfl⟩
  rw [HRES.out]
  cases r
  all_goals
    go_wp2_with fail
    go_ret
    exact ⟨rfl, B1.out⟩
end

/-- The chapter's disks, one behind the other. -/
def ones : List UInt8 := List.replicate 128 1
def twos : List UInt8 := List.replicate 128 2
def a0 : Dk := newD 16
def a1 : Dk := written a0 3 ones
def a2 : Dk := crashed a1 [] (-1) 0
def a3 : Dk := written a2 3 ones
def a4 : Dk := flushed a3
def a5 : Dk := written a4 3 twos
def a6 : Dk := crashed a5 [] 0 2
def a7 : Dk := armed a6 1
def a8 : Dk := written a7 4 twos
def a9 : Dk := flushed a8
def a10 : Dk := crashed a9 [true] (-1) 0
theorem f1 : writeE a0 3 128 = 0 ∧ a0.waits.length < 1000 := by decide +kernel
theorem f2 : (a1.down = false ∧ 3 < a1.blks.length) ∧ same8 ((readB a1 3).take 1) [1] = true := by decide +kernel
theorem f3 : cachedL a1 = [3] ∧ a1.waits.length = 1 := by decide +kernel
theorem f4 : (a2.down = false ∧ 3 < a2.blks.length) ∧ same8 ((readB a2 3).take 1) [0] = true := by decide +kernel
theorem f5 : writeE a2 3 128 = 0 ∧ a2.waits.length < 1000 := by decide +kernel
theorem f6 : flushE a3 = 0 := by decide +kernel
theorem f7 : writeE a4 3 128 = 0 ∧ a4.waits.length < 1000 := by decide +kernel
theorem f8 : (a6.down = false ∧ 3 < a6.blks.length) ∧ same8 ((readB a6 3).take 4) [2, 2, 1, 1] = true := by decide +kernel
theorem f9 : armE a6 1 = 0 := by decide +kernel
theorem f10 : writeE a7 4 128 = 0 ∧ a7.waits.length < 1000 := by decide +kernel
theorem f11 : flushE a8 = 20 ∧ a9.down = true ∧ readE a9 4 = 20 := by decide +kernel
theorem f12 : (a10.down = false ∧ 4 < a10.blks.length) ∧ same8 ((readB a10 4).take 1) [2] = true := by decide +kernel
theorem f13 : writeE a10 16 128 = 2 ∧ writeE a10 0 127 = 2 ∧ armE a10 (-1) = 2 := by decide +kernel

set_option maxHeartbeats 8000000 in
set_option maxRecDepth 100000 in
theorem awake_any (w : World) : Calls Try.prog 15 #[] w fun e w' => e = .returned (.bool true) ∧ Below w.heap.size w w' := by
  go_enter Try.func15, Try.ntmps15
  go_wp2_with fail
  refine (filled_any 1 _).mono ?_
  rintro e wB ⟨g1, rfl, hg1, hm1, hb1⟩
  have M1 := Lib.hid hm1
  have B1 := Lib.hid hb1
  clear hm1 hb1 hg1
  go_wp2_with fail
  refine (filled_any 2 _).mono ?_
  rintro e wC ⟨g2, rfl, hg2, hm2, hb2⟩
  have O0 := Lib.hid (M1.out.keep hb2).reads
  have T0 := Lib.hid hm2.reads
  have B0 := Lib.hid (B1.out.trans (hb2.mono B1.out.size))
  have l1 : g1 < wC.heap.size := (M1.out.keep hb2).lt
  have l2 : g2 < wC.heap.size := hm2.lt
  clear hm2 hb2 hg2 M1 B1
  obtain ⟨F, hF⟩ : ∃ F : Nat → Prop, F = fun k => wC.heap.size ≤ k := ⟨_, rfl⟩
  have HFW : Hid (∀ k, F k → w.heap.size ≤ k) := Lib.hid (by rw [hF]; exact fun k hk => Nat.le_trans B0.out.size hk)
  have HG1 : Hid (∀ a, (some ⟨g1, 0, none⟩ : Option Addr) = some a → ¬ F a.block) := Lib.hid (fun a e => by injection e with e; rw [← e, hF]; exact Nat.not_le_of_lt l1)
  have HG2 : Hid (∀ a, (some ⟨g2, 0, none⟩ : Option Addr) = some a → ¬ F a.block) := Lib.hid (fun a e => by injection e with e; rw [← e, hF]; exact Nat.not_le_of_lt l2)
  have hF2 : ∀ b, wC.heap.size ≤ b → F b := by rw [hF]; exact fun b h => h
  clear hF
  go_wp2_with fail
  refine (new_good 16 _ (by decide) (by decide) F hF2).mono ?_
  rintro e w2 ⟨p, q, rfl, hp, hq, hd, hb⟩
  have HP1 : Hid (Apart (some ⟨g1, 0, none⟩) p) := Lib.hid fun a e => by injection e with e; rw [← e]; exact Nat.ne_of_lt (Nat.lt_of_lt_of_le l1 hp)
  have HP2 : Hid (Apart (some ⟨g2, 0, none⟩) p) := Lib.hid fun a e => by injection e with e; rw [← e]; exact Nat.ne_of_lt (Nat.lt_of_lt_of_le l2 hp)
  have D2 : Hid (DiskAt F w2 p q a0) := Lib.hid hd
  have O2 := Lib.hid (O0.out.keep hb)
  have T2 := Lib.hid (T0.out.keep hb)
  have B2 := Lib.hid (B0.out.trans (hb.mono B0.out.size))
  clear hd hb O0 T0 B0 hp hq l1 l2 hF2
  go_wp2_with fail
  refine (new_bad 15 _ (.inl (by decide))).mono ?_
  rintro e w' ⟨rfl, rfl⟩
  go_wp2_with fail
  refine (write_any _ D2.out 3 _ 128 128 _ O2.out HP1.out f1.2).mono ?_
  rintro e w3 ⟨rfl, hd, ht⟩
  rw [f1.1]
  have D3 := Lib.hid hd
  have B3 := Lib.hid (B2.out.trans (ht.below HFW.out B2.out.size))
  have O3 := Lib.hid (O2.out.turn ht HG1.out)
  have T3 := Lib.hid (T2.out.turn ht HG2.out)
  clear hd ht B2 O2 T2 D2
  change Hid (DiskAt F w3 p q a1) at D3
  go_wp2_with fail
  obtain ⟨w4, hw⟩ : ∃ W : World, W = w3.alloc (.cells #[.int .u8 1] 5) := ⟨_, rfl⟩
  have hb : Below w3.heap.size w3 w4 := by rw [hw]; exact (Below.refl _ w3).alloc (Nat.le_refl _) _
  have hl : Reads8 w4 (some ⟨w3.heap.size, 0, none⟩) 1 [1] := by rw [hw]; exact (MemC.new w3 (b8 [1]) 5).mem8.reads
  have LL3 := Lib.hid hl
  rw [← hw]
  have D4 := Lib.hid (D3.out.keep hb)
  have B4 := Lib.hid (B3.out.trans (hb.mono B3.out.size))
  have O4 := Lib.hid (O3.out.keep hb)
  have T4 := Lib.hid (T3.out.keep hb)
  have hgn : q < w3.heap.size := D3.out.qlt
  generalize w3.heap.size = gl at *
  clear hb hl hw B3 O3 T3 D3
  refine (says_yes _ D4.out 3 f2.1.1 f2.1.2 _ 1 1 _ LL3.out (by omega) true f2.2).mono ?_
  rintro e w5 ⟨rfl, hb⟩
  have D5 := Lib.hid (D4.out.keep hb)
  have B5 := Lib.hid (B4.out.trans (hb.mono B4.out.size))
  have O5 := Lib.hid (O4.out.keep hb)
  have T5 := Lib.hid (T4.out.keep hb)
  clear hb B4 O4 T4 D4
  clear LL3
  go_wp2_with fail
  refine (cached_any _ D5.out).mono ?_
  rintro e w6 ⟨v, rfl, hown, hb⟩
  rw [f3.1, f3.2] at hown
  obtain ⟨A, c, rfl, hrI, hnc, hcm⟩ := own_readsI hown
  have RI := Lib.hid hrI
  have D6 := Lib.hid (D5.out.keep hb)
  have B6 := Lib.hid (B5.out.trans (hb.mono B5.out.size))
  have O6 := Lib.hid (O5.out.keep hb)
  have T6 := Lib.hid (T5.out.keep hb)
  clear hb hown hrI B5 O5 T5 D5
  go_wp2_with fail
  obtain ⟨w7, hw⟩ : ∃ W : World, W = w6.alloc (.cells #[.int .i64 3] 3) := ⟨_, rfl⟩
  have hb : Below w6.heap.size w6 w7 := by rw [hw]; exact (Below.refl _ w6).alloc (Nat.le_refl _) _
  have hl : ReadsI w7 (some ⟨w6.heap.size, 0, none⟩) 1 [3] := by rw [hw]; exact ⟨rfl, (MemC.new w6 (icells [3]) 3).cells⟩
  have RI2 := Lib.hid (RI.out.keep hb)
  have LI := Lib.hid hl
  rw [← hw]
  have D7 := Lib.hid (D6.out.keep hb)
  have B7 := Lib.hid (B6.out.trans (hb.mono B6.out.size))
  have O7 := Lib.hid (O6.out.keep hb)
  have T7 := Lib.hid (T6.out.keep hb)
  generalize w6.heap.size = gl at *
  clear hb hl hw RI B6 O6 T6 D6
  refine (eqplaces_any _ _ 1 1 _ _ [3] [3] _ RI2.out LI.out (by simp [maxLen]) (by simp [maxLen])).mono ?_
  rintro e w8 ⟨rfl, hqq⟩
  rw [show sameI [3] [3] = true by decide]
  have hb := hqq.below
  have D8 := Lib.hid (D7.out.keep hb)
  have B8 := Lib.hid (B7.out.trans (hb.mono B7.out.size))
  have O8 := Lib.hid (O7.out.keep hb)
  have T8 := Lib.hid (T7.out.keep hb)
  clear hb hqq RI2 LI B7 O7 T7 D7
  go_wp2_with fail
  refine (crash_any _ D8.out none 0 0 [] (-1) 0 rfl (by simp [maxLen]) (Cells.nil _ _) (fun a e => by cases e)).mono ?_
  rintro e w9 ⟨rfl, hd, ht⟩
  rw [show crashE 0 = 0 from rfl]
  have D9 := Lib.hid hd
  have B9 := Lib.hid (B8.out.trans (ht.below HFW.out B8.out.size))
  have O9 := Lib.hid (O8.out.turn ht HG1.out)
  have T9 := Lib.hid (T8.out.turn ht HG2.out)
  clear hd ht B8 O8 T8 D8
  change Hid (DiskAt F w9 p q a2) at D9
  go_wp2_with fail
  obtain ⟨w10, hw⟩ : ∃ W : World, W = w9.alloc (.cells #[.int .u8 0] 5) := ⟨_, rfl⟩
  have hb : Below w9.heap.size w9 w10 := by rw [hw]; exact (Below.refl _ w9).alloc (Nat.le_refl _) _
  have hl : Reads8 w10 (some ⟨w9.heap.size, 0, none⟩) 1 [0] := by rw [hw]; exact (MemC.new w9 (b8 [0]) 5).mem8.reads
  have LL9 := Lib.hid hl
  rw [← hw]
  have D10 := Lib.hid (D9.out.keep hb)
  have B10 := Lib.hid (B9.out.trans (hb.mono B9.out.size))
  have O10 := Lib.hid (O9.out.keep hb)
  have T10 := Lib.hid (T9.out.keep hb)
  have hgn : q < w9.heap.size := D9.out.qlt
  generalize w9.heap.size = gl at *
  clear hb hl hw B9 O9 T9 D9
  refine (says_yes _ D10.out 3 f4.1.1 f4.1.2 _ 1 1 _ LL9.out (by omega) true f4.2).mono ?_
  rintro e w11 ⟨rfl, hb⟩
  have D11 := Lib.hid (D10.out.keep hb)
  have B11 := Lib.hid (B10.out.trans (hb.mono B10.out.size))
  have O11 := Lib.hid (O10.out.keep hb)
  have T11 := Lib.hid (T10.out.keep hb)
  clear hb B10 O10 T10 D10
  clear LL9
  go_wp2_with fail
  refine (write_any _ D11.out 3 _ 128 128 _ O11.out HP1.out f5.2).mono ?_
  rintro e w12 ⟨rfl, hd, ht⟩
  rw [f5.1]
  have D12 := Lib.hid hd
  have B12 := Lib.hid (B11.out.trans (ht.below HFW.out B11.out.size))
  have O12 := Lib.hid (O11.out.turn ht HG1.out)
  have T12 := Lib.hid (T11.out.turn ht HG2.out)
  clear hd ht B11 O11 T11 D11
  change Hid (DiskAt F w12 p q a3) at D12
  go_wp2_with fail
  refine (flush_any _ D12.out).mono ?_
  rintro e w13 ⟨rfl, hd, ht⟩
  rw [f6]
  have D13 := Lib.hid hd
  have B13 := Lib.hid (B12.out.trans (ht.below HFW.out B12.out.size))
  have O13 := Lib.hid (O12.out.turn ht HG1.out)
  have T13 := Lib.hid (T12.out.turn ht HG2.out)
  clear hd ht B12 O12 T12 D12
  change Hid (DiskAt F w13 p q a4) at D13
  go_wp2_with fail
  refine (write_any _ D13.out 3 _ 128 128 _ T13.out HP2.out f7.2).mono ?_
  rintro e w14 ⟨rfl, hd, ht⟩
  rw [f7.1]
  have D14 := Lib.hid hd
  have B14 := Lib.hid (B13.out.trans (ht.below HFW.out B13.out.size))
  have O14 := Lib.hid (O13.out.turn ht HG1.out)
  have T14 := Lib.hid (T13.out.turn ht HG2.out)
  clear hd ht B13 O13 T13 D13
  change Hid (DiskAt F w14 p q a5) at D14
  go_wp2_with fail
  refine (crash_any _ D14.out none 0 0 [] (0) 2 rfl (by simp [maxLen]) (Cells.nil _ _) (fun a e => by cases e)).mono ?_
  rintro e w15 ⟨rfl, hd, ht⟩
  rw [show crashE 2 = 0 from rfl]
  have D15 := Lib.hid hd
  have B15 := Lib.hid (B14.out.trans (ht.below HFW.out B14.out.size))
  have O15 := Lib.hid (O14.out.turn ht HG1.out)
  have T15 := Lib.hid (T14.out.turn ht HG2.out)
  clear hd ht B14 O14 T14 D14
  change Hid (DiskAt F w15 p q a6) at D15
  go_wp2_with fail
  obtain ⟨w16, hw⟩ : ∃ W : World, W = w15.alloc (.cells #[.int .u8 2, .int .u8 2, .int .u8 1, .int .u8 1] 5) := ⟨_, rfl⟩
  have hb : Below w15.heap.size w15 w16 := by rw [hw]; exact (Below.refl _ w15).alloc (Nat.le_refl _) _
  have hl : Reads8 w16 (some ⟨w15.heap.size, 0, none⟩) 4 [2, 2, 1, 1] := by rw [hw]; exact (MemC.new w15 (b8 [2, 2, 1, 1]) 5).mem8.reads
  have LL15 := Lib.hid hl
  rw [← hw]
  have D16 := Lib.hid (D15.out.keep hb)
  have B16 := Lib.hid (B15.out.trans (hb.mono B15.out.size))
  have O16 := Lib.hid (O15.out.keep hb)
  have T16 := Lib.hid (T15.out.keep hb)
  have hgn : q < w15.heap.size := D15.out.qlt
  generalize w15.heap.size = gl at *
  clear hb hl hw B15 O15 T15 D15
  refine (says_yes _ D16.out 3 f8.1.1 f8.1.2 _ 4 4 _ LL15.out (by omega) true f8.2).mono ?_
  rintro e w17 ⟨rfl, hb⟩
  have D17 := Lib.hid (D16.out.keep hb)
  have B17 := Lib.hid (B16.out.trans (hb.mono B16.out.size))
  have O17 := Lib.hid (O16.out.keep hb)
  have T17 := Lib.hid (T16.out.keep hb)
  clear hb B16 O16 T16 D16
  clear LL15
  go_wp2_with fail
  refine (arm_any _ D17.out 1 (by decide) (by decide)).mono ?_
  rintro e w18 ⟨rfl, hd, ht⟩
  rw [f9]
  have D18 := Lib.hid hd
  have B18 := Lib.hid (B17.out.trans (ht.below HFW.out B17.out.size))
  have O18 := Lib.hid (O17.out.turn ht HG1.out)
  have T18 := Lib.hid (T17.out.turn ht HG2.out)
  clear hd ht B17 O17 T17 D17
  change Hid (DiskAt F w18 p q a7) at D18
  go_wp2_with fail
  refine (write_any _ D18.out 4 _ 128 128 _ T18.out HP2.out f10.2).mono ?_
  rintro e w19 ⟨rfl, hd, ht⟩
  rw [f10.1]
  have D19 := Lib.hid hd
  have B19 := Lib.hid (B18.out.trans (ht.below HFW.out B18.out.size))
  have O19 := Lib.hid (O18.out.turn ht HG1.out)
  have T19 := Lib.hid (T18.out.turn ht HG2.out)
  clear hd ht B18 O18 T18 D18
  change Hid (DiskAt F w19 p q a8) at D19
  go_wp2_with fail
  refine (flush_any _ D19.out).mono ?_
  rintro e w20 ⟨rfl, hd, ht⟩
  rw [f11.1]
  have D20 := Lib.hid hd
  have B20 := Lib.hid (B19.out.trans (ht.below HFW.out B19.out.size))
  have O20 := Lib.hid (O19.out.turn ht HG1.out)
  have T20 := Lib.hid (T19.out.turn ht HG2.out)
  clear hd ht B19 O19 T19 D19
  change Hid (DiskAt F w20 p q a9) at D20
  go_wp2_with fail
  refine (down_any _ D20.out).mono ?_
  rintro e w' ⟨rfl, rfl⟩
  rw [f11.2.1]
  go_wp2_with fail
  refine (read_no _ D20.out 4 (.inl f11.2.1)).mono ?_
  rintro e w' ⟨rfl, rfl⟩
  rw [f11.2.2]
  go_wp2_with fail
  obtain ⟨w21, hw⟩ : ∃ W : World, W = w20.alloc (.cells #[.bool true] 4) := ⟨_, rfl⟩
  have hb : Below w20.heap.size w20 w21 := by rw [hw]; exact (Below.refl _ w20).alloc (Nat.le_refl _) _
  have hl : Cells w21 (some ⟨w20.heap.size, 0, none⟩) (kcells [true]) := by rw [hw]; exact (MemC.new w20 (kcells [true]) 4).cells
  have LK := Lib.hid hl
  rw [← hw]
  have D21 := Lib.hid (D20.out.keep hb)
  have B21 := Lib.hid (B20.out.trans (hb.mono B20.out.size))
  have O21 := Lib.hid (O20.out.keep hb)
  have T21 := Lib.hid (T20.out.keep hb)
  have hgn : q < w20.heap.size := D20.out.qlt
  generalize w20.heap.size = gl at *
  clear hb hl hw B20 O20 T20 D20
  refine (crash_any _ D21.out (some ⟨gl, 0, none⟩) 1 1 [true] (-1) 0 rfl (by simp [maxLen]) LK.out (fun a e => by injection e with e; rw [← e]; exact Nat.ne_of_gt hgn)).mono ?_
  rintro e w22 ⟨rfl, hd, ht⟩
  rw [show crashE 0 = 0 from rfl]
  have D22 := Lib.hid hd
  have B22 := Lib.hid (B21.out.trans (ht.below HFW.out B21.out.size))
  have O22 := Lib.hid (O21.out.turn ht HG1.out)
  have T22 := Lib.hid (T21.out.turn ht HG2.out)
  clear hd ht B21 O21 T21 D21
  change Hid (DiskAt F w22 p q a10) at D22
  clear LK hgn
  go_wp2_with fail
  obtain ⟨w23, hw⟩ : ∃ W : World, W = w22.alloc (.cells #[.int .u8 2] 5) := ⟨_, rfl⟩
  have hb : Below w22.heap.size w22 w23 := by rw [hw]; exact (Below.refl _ w22).alloc (Nat.le_refl _) _
  have hl : Reads8 w23 (some ⟨w22.heap.size, 0, none⟩) 1 [2] := by rw [hw]; exact (MemC.new w22 (b8 [2]) 5).mem8.reads
  have LL22 := Lib.hid hl
  rw [← hw]
  have D23 := Lib.hid (D22.out.keep hb)
  have B23 := Lib.hid (B22.out.trans (hb.mono B22.out.size))
  have O23 := Lib.hid (O22.out.keep hb)
  have T23 := Lib.hid (T22.out.keep hb)
  have hgn : q < w22.heap.size := D22.out.qlt
  generalize w22.heap.size = gl at *
  clear hb hl hw B22 O22 T22 D22
  refine (says_yes _ D23.out 4 f12.1.1 f12.1.2 _ 1 1 _ LL22.out (by omega) true f12.2).mono ?_
  rintro e w24 ⟨rfl, hb⟩
  have D24 := Lib.hid (D23.out.keep hb)
  have B24 := Lib.hid (B23.out.trans (hb.mono B23.out.size))
  have O24 := Lib.hid (O23.out.keep hb)
  have T24 := Lib.hid (T23.out.keep hb)
  clear hb B23 O23 T23 D23
  clear LL22
  go_wp2_with fail
  refine (down_any _ D24.out).mono ?_
  rintro e w' ⟨rfl, rfl⟩
  rw [f12.1.1]
  go_wp2_with fail
  refine (write_no _ D24.out 16 _ 128 128 (.inr (.inr (.inl (by decide))))).mono ?_
  rintro e w' ⟨rfl, rfl⟩
  rw [f13.1]
  go_wp2_with fail
  refine (write_no _ D24.out 0 _ 127 127 (.inr (.inr (.inr (by decide))))).mono ?_
  rintro e w' ⟨rfl, rfl⟩
  rw [f13.2.1]
  go_wp2_with fail
  refine (arm_any _ D24.out (-1) (by decide) (by decide)).mono ?_
  rintro e w25 ⟨rfl, hd, ht⟩
  rw [f13.2.2]
  have D25 := Lib.hid hd
  have B25 := Lib.hid (B24.out.trans (ht.below HFW.out B24.out.size))
  have O25 := Lib.hid (O24.out.turn ht HG1.out)
  have T25 := Lib.hid (T24.out.turn ht HG2.out)
  clear hd ht B24 O24 T24 D24
  go_wp2_with fail
  go_ret
  exact ⟨rfl, B25.out⟩
end Go.Proofs.Ytdnhlpddnbholaa
