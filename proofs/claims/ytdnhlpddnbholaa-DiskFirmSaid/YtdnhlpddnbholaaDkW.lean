/-
  DiskFirm: the walk.
-/
import Derived.Test.YtdnhlpddnbholaaDkV
namespace Go.Proofs.Ytdnhlpddnbholaa
open Go.RowKit Go.Maps
set_option linter.unusedVariables false
set_option linter.unusedSimpArgs false
attribute [local go_sem ↓] Go.wp_at_zero Go.wp_at_succ

set_option maxRecDepth 20000 in
theorem choose_any (a : Int) (w : World) (h1 : -9223372036854775808 ≤ a) (h2 : a ≤ 9223372036854775807) : Calls Try.prog 10 #[.int .i64 a, .int .i64 129] w fun e w' => ∃ r : Int, 0 ≤ r ∧ r ≤ 128 ∧ e = .returned (.int .i64 r) ∧ w = w' := by
  by_cases hn : a < 0
  · have w1 : IntKind.i64.wrap (a + 1) = a + 1 := IntWalk.i64_in _ (by omega)
    have w2 : IntKind.i64.wrap (-(a + 1)) = -(a + 1) := IntWalk.i64_in _ (by omega)
    obtain ⟨r, hr⟩ : ∃ r, r = (-(a + 1)).tmod 129 := ⟨_, rfl⟩
    have hr2 : (-(a + 1)).tmod 129 = (-(a + 1)) % 129 := Int.tmod_eq_emod_of_nonneg (by omega)
    have r0 : 0 ≤ r := by rw [hr, hr2]; omega
    have r1 : r ≤ 128 := by rw [hr, hr2]; omega
    have w3 : IntKind.i64.wrap r = r := IntWalk.i64_in _ (by omega)
    have hr3 : (-(a + 1)).tmod 129 = r := hr.symm
    have HR := Lib.hid (And.intro r0 r1)
    clear hr hr2 h1 h2 r0 r1
    go_enter Try.func10, Try.ntmps10
    go_wp2
    go_ret
    exact ⟨_, HR.out.1, HR.out.2, rfl, rfl⟩
  · obtain ⟨r, hr⟩ : ∃ r, r = a.tmod 129 := ⟨_, rfl⟩
    have hr2 : a.tmod 129 = a % 129 := Int.tmod_eq_emod_of_nonneg (by omega)
    have r0 : 0 ≤ r := by rw [hr, hr2]; omega
    have r1 : r ≤ 128 := by rw [hr, hr2]; omega
    have w3 : IntKind.i64.wrap r = r := IntWalk.i64_in _ (by omega)
    have hr3 : a.tmod 129 = r := hr.symm
    have HR := Lib.hid (And.intro r0 r1)
    clear hr hr2 h1 h2 r0 r1
    go_enter Try.func10, Try.ntmps10
    go_wp2
    go_ret
    exact ⟨_, HR.out.1, HR.out.2, rfl, rfl⟩

set_option maxRecDepth 100000 in
set_option maxHeartbeats 8000000 in
theorem firm_in (A : Option Addr) (n c : Nat) (l0 : List (UInt8 × UInt8)) (fl : UInt8) (K : Option Addr) (kn kc : Nat) (keep : List Bool) (torn cut : Int) (w : World) (m : Nat) (hl : l0.length = n) (hc : Cells w A (putcells l0)) (hn : n ≤ c) (hm : c ≤ maxLen) (e1 : m = min n 30)
    (hkl : keep.length = kn) (hkc : Cells w K (kcells keep)) (hkn : kn ≤ kc) (hkm : kc ≤ maxLen) (hb1 : -9223372036854775808 ≤ cut) (hb2 : cut ≤ 9223372036854775807) (hkb : ∀ a, K = some a → a.block < w.heap.size ∨ keep = []) :
    Calls Try.prog 3 #[.slice A n c, .int .u8 (fl.toNat : Int), .agg #[.slice K kn kc, .int .i64 torn, .int .i64 cut]] w fun e w' => e = .returned (.bool true) ∧ Below w.heap.size w w' := by
  have t1 : min (n : Int) 30 = (m : Int) := by omega
  have hm30 : m ≤ 30 := by omega
  have i1 : (m : Int) ≤ (c : Int) := by omega
  have HL : Hid ((l0.take m).length = m) := Lib.hid (by rw [List.length_take]; omega)
  have HC := Lib.hid (cells_firsts hc m)
  have HCW := HC
  generalize l0.take m = l at *
  have HKL := Lib.hid hkl
  have HKC := Lib.hid hkc
  have HKB := Lib.hid hkb
  have HKM := Lib.hid (Nat.le_trans hkn hkm)
  have HCB := Lib.hid (And.intro hb1 hb2)
  unfold maxLen at hm hkm
  obtain ⟨kk, hkk⟩ : ∃ kk, kk = fl.toNat % (m + 1) := ⟨_, rfl⟩
  have hkm2 : kk ≤ m := by rw [hkk]; have := Nat.mod_lt fl.toNat (show 0 < m + 1 by omega); omega
  have tm : (fl.toNat : Int).tmod ((m : Int) + 1) = (kk : Int) := by rw [Int.tmod_eq_emod_of_nonneg (by omega), hkk]; rfl
  have te : (fl.toNat : Int) % ((m : Int) + 1) = (kk : Int) := by rw [hkk]; rfl
  have wm : IntKind.i64.wrap ((m : Int) + 1) = (m : Int) + 1 := IntWalk.i64_in _ (by omega)
  have wk : IntKind.i64.wrap (kk : Int) = (kk : Int) := IntWalk.i64_in _ (by omega)
  have wf : IntKind.i64.wrap (fl.toNat : Int) = (fl.toNat : Int) := IntWalk.i64_in _ (by have := fl.toNat_lt; omega)
  have m0 : ¬ ((m : Int) + 1 = 0) := by omega
  clear hl hc e1 hkk hkl hkc hkb hb1 hb2
  go_enter Try.func3, Try.ntmps3
  go_upto_region 1 with fail
  obtain ⟨w1, hw1⟩ : ∃ W : World, W = w.alloc (.cells #[.slice K kn kc, .int .i64 torn, .int .i64 cut] 25) := ⟨_, rfl⟩
  have hb : Below w.heap.size w w1 := by rw [hw1]; exact (Below.refl _ w).alloc (Nat.le_refl _) _
  have hx : MemC w1 w.heap.size 0 [.slice K kn kc, .int .i64 torn, .int .i64 cut] := by rw [hw1]; exact MemC.new w [.slice K kn kc, .int .i64 torn, .int .i64 cut] _
  rw [← hw1]
  have B1 := Lib.hid hb
  have C1 := Lib.hid (HC.out.keep hb)
  have Y1 := Lib.hid (HKC.out.keep hb)
  have X1 := Lib.hid hx
  obtain ⟨q5, hq5⟩ : ∃ y, y = w.heap.size := ⟨_, rfl⟩
  rw [← hq5] at X1 HKB ⊢
  have HQ5 := Lib.hid hq5
  clear hb hx hw1 HC HKC hq5
  go_wp2_with fail
  refine (after_any A m c l (kk : Int) _ HL.out C1.out (by omega)).mono ?_
  rintro e w2 ⟨p, q, rfl, hp, hq, hd, hb⟩
  have HLV := Lib.hid (afterK_live l (kk : Int) m (by omega))
  have HFB : Hid (∀ torn cut : Int, 0 ≤ cut ∧ cut ≤ 128 → ∀ a i : Nat, a < 16 → i < 128 → ∀ x : UInt8, (readB (crashed (afterK l (kk : Int) m) keep torn cut) a)[i]? = some x → x = lastV l kk a ∨ 0 < cntV l kk a m x) := Lib.hid fun torn cut hc a i ha hi x hx => firm_byte l kk m hkm2 (by omega) keep torn cut hc a i ha hi x hx
  generalize afterK l (kk : Int) m = E at *
  obtain ⟨cd, vd, hd⟩ := hd
  have PQ : Hid (q5 < p ∧ q5 < q) := Lib.hid (by have := X1.out.at_.lt; omega)
  have D2 := Lib.hid (hd.keep (Below.refl _ _))
  have B2 := Lib.hid (B1.out.trans (hb.mono B1.out.size))
  have X2 := Lib.hid (X1.out.keep hb)
  have Y2 := Lib.hid (Y1.out.keep hb)
  have LX := Lib.hid X1.out.at_.lt
  clear hd hb hp hq tm te wm wf m0 t1 i1 B1 X1 Y1 C1
  obtain ⟨x0, fx0⟩ := X2.out.get 2 _ rfl
  go_wp2_with fail
  refine (choose_any cut _ HCB.out.1 HCB.out.2).mono ?_
  rintro e w' ⟨cc, hc0, hc1, rfl, rfl⟩
  have HCC := Lib.hid (And.intro hc0 hc1)
  clear hc0 hc1
  go_upto_region 7 with fail
  obtain ⟨w3, hw3⟩ : ∃ W : World, W = w2.setCell ⟨q5, 2, none⟩ (.int .i64 cc) := ⟨_, rfl⟩
  have ht : Turn (fun b => b = q5) w2 w3 := by rw [hw3]; exact Turn.set (F := fun b => b = q5) w2 rfl _
  have X3 : Hid (MemC w3 q5 0 [.slice K kn kc, .int .i64 torn, .int .i64 cc]) := Lib.hid (by rw [hw3]; exact X2.out.setAt 2 (by simp) (.int .i64 cc))
  have pq := PQ.out
  have lx := LX.out
  have D3 := Lib.hid (D2.out.turn ht (by omega) (by omega) (fun g hg e => by have := D2.out.fv g hg; omega))
  have B3 := Lib.hid (B2.out.trans (ht.below (B := w.heap.size) (fun b e => by have := HQ5.out; omega) B2.out.size))
  have Y3 := Lib.hid (cells_turn_or Y2.out ht (by
    by_cases h : keep = []
    · exact .inl (by rw [h]; rfl)
    · exact .inr fun a e hq => by have := (HKB.out a e).resolve_right h; omega))
  rw [← hw3]
  obtain ⟨x0, _⟩ := X3.out.get 0 _ rfl
  obtain ⟨x1, _⟩ := X3.out.get 1 _ rfl
  obtain ⟨x2, _⟩ := X3.out.get 2 _ rfl
  have HAP : Hid (keep = [] ∨ Apart K q) := Lib.hid (by
    by_cases h : keep = []
    · exact .inl h
    · exact .inr fun a e hq => by have := (HKB.out a e).resolve_right h; omega)
  clear hw3 ht X2 D2 B2 Y2 fx0 pq lx HKB
  go_wp2_with fail
  refine (crash_any' _ ⟨_, _, D3.out⟩ K kn kc keep torn cc HKL.out HKM.out Y3.out HAP.out).mono ?_
  rintro e w4 ⟨rfl, hd4, ht4⟩
  have hcc := HCC.out
  rw [show crashE cc = 0 by unfold crashE; rw [if_neg (by omega)]]
  have HLC := Lib.hid (crashed_live HLV.out keep torn cc hcc)
  have HFC : Hid (∀ a i : Nat, a < 16 → i < 128 → ∀ x : UInt8, (readB (crashed E keep torn cc) a)[i]? = some x → x = lastV l kk a ∨ 0 < cntV l kk a m x) := Lib.hid (HFB.out torn cc hcc)
  generalize crashed E keep torn cc = EC at *
  have D4 := Lib.hid hd4
  have B4 := Lib.hid (B3.out.trans (ht4.below (B := w.heap.size) (fun b hb => by have hb' : w1.heap.size ≤ b := hb; have := HQ5.out; have := LX.out; omega) B3.out.size))
  clear hd4 ht4 hcc D3 B3 Y3 HFB X3 x0 x1 x2 HAP HLV HCC
  go_wp2_with fail
  refine (cached_any _ D4.out).mono ?_
  rintro e w5 ⟨v, rfl, hown, hb⟩
  have hw0 : EC.waits.length = 0 := by have := HLC.out.few; omega
  rw [hw0] at hown
  obtain ⟨Ak, ck, rfl, _, _, _⟩ := own_readsI hown
  have D5 := Lib.hid (D4.out.keep hb)
  have B5 := Lib.hid (B4.out.trans (hb.mono B4.out.size))
  clear hown hb D4 B4 hw0
  go_wp2_with fail
  refine (down_any _ D5.out).mono ?_
  rintro e w' ⟨rfl, rfl⟩
  rw [HLC.out.up]
  have C5 : Hid (Cells w5 A (putcells l)) := Lib.hid (HCW.out.keep B5.out)
  clear HCW
  go_wp2_with fail
  go_loopw [52] (fun i wr => ∃ k : Nat, k ≤ 16 ∧ i = .int .i64 (k : Int) ∧ Below w5.heap.size w5 wr) (fun i _ => 16 - (intOf i).toNat)
  case atStart => exact ⟨0, Nat.zero_le _, rfl, Below.refl _ _⟩
  case round =>
    obtain ⟨a, hk, rfl, hb⟩ := hrel
    have HB := Lib.hid hb
    clear hb
    by_cases hlt : a < 16
    · have k0 : (0 : Int) ≤ (a : Int) := by omega
      have k1 : (a : Int) < 16 := by omega
      have kwa : IntKind.i64.wrap ((a : Int) + 1) = (a : Int) + 1 := IntWalk.i64_in _ (by omega)
      obtain ⟨W, hW⟩ : ∃ W : World, W = wr := ⟨_, rfl⟩
      rw [← hW] at HB ⊢
      clear hW wr
      have hmm := @run_makeMap Try.prog
      go_upto_region 13 with fail
      obtain ⟨W6, hW6⟩ : ∃ V : World, V = W.alloc (.map #[] 0) := ⟨_, rfl⟩
      have hb6 : Below W.heap.size W W6 := by rw [hW6]; exact (Below.refl _ W).alloc (Nat.le_refl _) _
      have M6 : Hid (W6.ownsMap Try.prog 5 (plainElem (H := Unit) Try.prog 3) W.heap.size 0 (.map [])) := Lib.hid (by rw [hW6]; exact World.ownsMap_made W _ _ _)
      have B6 := Lib.hid hb6
      rw [← hW6]
      clear hb6 hW6 hmm
      go_wp2_with fail
      go_loopw [10, 58] (fun s i wx => ∃ (j : Nat) (D : DataW Unit), j ≤ m ∧ i = .int .i64 (j : Int) ∧ s = .int .u8 ((lastV l (min j kk) a).toNat : Int) ∧ wx.ownsMap Try.prog 5 (plainElem Try.prog 3) W.heap.size j D ∧ Counted l kk a j D ∧ Below W.heap.size W wx) (fun _ i _ => m - (intOf i).toNat)
      case atStart => exact ⟨0, _, Nat.zero_le _, rfl, by rw [Nat.zero_min]; rfl, M6.out, Counted.start _ _ _, B6.out⟩
      case round =>
        obtain ⟨j, D, hj, rfl, rfl, hmap, hcnt, hb⟩ := hrel
        have HM := Lib.hid hmap
        have HC := Lib.hid hcnt
        have BX := Lib.hid hb
        clear hmap hcnt hb M6 B6
        by_cases hjm : j < m
        · have j0 : (0 : Int) ≤ (j : Int) := by omega
          have j1 : (j : Int) < (m : Int) := by omega
          have kw : IntKind.i64.wrap ((j : Int) + 1) = (j : Int) + 1 := IntWalk.i64_in _ (by omega)
          have hkl : j < l.length := by have := HL.out; omega
          have CX := Lib.hid (C5.out.keep (HB.out.trans (BX.out.mono HB.out.size)))
          have HW0 := Lib.hid (show W.heap.size < wr.heap.size from HM.out.lt)
          obtain ⟨ab, ao, rfl, hcl⟩ := CX.out (by rw [putcells_length]; omega)
          have hp0 := hcl.cell (j * 2) (by rw [putcells_length]; omega)
          have hp1 := hcl.cell (j * 2 + 1) (by rw [putcells_length]; omega)
          obtain ⟨g0, g1⟩ := putcells_get l j (by omega)
          have hx0 : (putcells l)[j * 2]'(by rw [putcells_length]; omega) = .int .u8 (l[j].1.toNat : Int) := (List.getElem?_eq_some_iff.1 g0).2
          have hx1 : (putcells l)[j * 2 + 1]'(by rw [putcells_length]; omega) = .int .u8 (l[j].2.toNat : Int) := (List.getElem?_eq_some_iff.1 g1).2
          rw [hx0] at hp0
          rw [hx1, ← Nat.add_assoc] at hp1
          obtain ⟨x, hx⟩ : ∃ x, x = l[j]'(by omega) := ⟨_, rfl⟩
          rw [← hx] at hp0 hp1
          have HX := Lib.hid hx
          clear hx hx0 hx1 g0 g1 hcl
          go_upto_region 16 with fail
          obtain ⟨wy, hwy⟩ : ∃ V : World, V = wr.alloc (.cells #[.int .u8 (x.1.toNat : Int), .int .u8 (x.2.toNat : Int)] 36) := ⟨_, rfl⟩
          have hb : Below wr.heap.size wr wy := by rw [hwy]; exact (Below.refl _ wr).alloc (Nat.le_refl _) _
          have hx2 : MemC wy wr.heap.size 0 [.int .u8 (x.1.toNat : Int), .int .u8 (x.2.toNat : Int)] := by rw [hwy]; exact MemC.new wr [.int .u8 (x.1.toNat : Int), .int .u8 (x.2.toNat : Int)] _
          rw [← hwy]
          have BY := Lib.hid (BX.out.trans (hb.mono BX.out.size))
          have MY := Lib.hid (ownsMap_same HM.out (hb.block _ HM.out.lt))
          have X := Lib.hid hx2
          obtain ⟨q8, hq8⟩ : ∃ y, y = wr.heap.size := ⟨_, rfl⟩
          rw [← hq8] at X HW0 ⊢
          clear hb hx2 hwy hq8 BX HM CX hp0 hp1
          obtain ⟨r, hr⟩ : ∃ r, r = x.1.toNat % 16 := ⟨_, rfl⟩
          have hr16 : r < 16 := by rw [hr]; exact Nat.mod_lt _ (by decide)
          have tx : (x.1.toNat : Int).tmod 16 = (r : Int) := by rw [Int.tmod_eq_emod_of_nonneg (by omega), hr]; rfl
          have tx2 : (x.1.toNat : Int) % 16 = (r : Int) := by rw [hr]; rfl
          have wu : IntKind.u8.wrap (r : Int) = (r : Int) := IntWalk.u8_in _ (by omega)
          have wi : IntKind.i64.wrap (r : Int) = (r : Int) := IntWalk.i64_in _ (by omega)
          have hel : l.getD j (0, 0) = x := by rw [HX.out, List.getD_eq_getElem?_getD, List.getElem?_eq_getElem hkl]; rfl
          have HE1 : Hid ((l.getD j (0, 0)).1.toNat % 16 = r) := Lib.hid (by rw [hel, hr])
          have HE2 : Hid ((l.getD j (0, 0)).2 = x.2) := Lib.hid (by rw [hel])
          obtain ⟨x0, _⟩ := X.out.get 0 _ rfl
          obtain ⟨x1, _⟩ := X.out.get 1 _ rfl
          clear hr hel HX
          by_cases hra : r = a
          · have hq : ((r : Int) != (a : Int)) = false := by rw [hra]; simp
            by_cases hjk : j < kk
            · have j2 : (j : Int) < (kk : Int) := by omega
              have HV : Hid (lastV l (min (j + 1) kk) a = x.2) := Lib.hid (by rw [show min (j + 1) kk = j + 1 by omega, lastV_succ, HE1.out, if_pos hra, HE2.out])
              clear hra
              go_wp2_with fail
              go_roundw
              case rel => exact ⟨j + 1, D, by omega, by go_num, by rw [HV.out], MY.out.mono (Nat.le_succ _), HC.out.same (fun h => by omega), BY.out⟩
              case measure => simp [intOf]; omega
            · have j2 : ¬ (j : Int) < (kk : Int) := by omega
              have HV : Hid (lastV l (min (j + 1) kk) a = lastV l (min j kk) a) := Lib.hid (by rw [show min (j + 1) kk = min j kk by omega])
              have x28 := UInt8.toNat_lt x.2
              have hkey : keyOf Try.prog 5 (.int .u8 (x.2.toNat : Int)) = some (.int .u8 (x.2.toNat : Int)) := keyOf_int_mk Try.underlying5 (by simp [Lit.wf, IntKind.min, IntKind.max, IntKind.signed, IntKind.bits]; omega)
              have HKY := Lib.hid hkey
              have HRA := Lib.hid hra
              clear hkey x28 hra
              go_wp2_with (first
                | (at_lookup; refine wpList_lookup_own_int _ rfl _ _ 34 rfl 5 3 .i64 law8 Try.underlying34 Try.underlying3 (zeroInt _) W.heap.size j D rfl MY.out _ _ rfl HKY.out ?_; intro cn hat hwc)
                | (at_mapUpdate; refine wpList_mapUpdate_own _ rfl _ _ _ 34 rfl 5 3 law8 Try.underlying34 _ W.heap.size j D rfl MY.out (by simp only [maxLen]; omega) _ _ _ rfl rfl HKY.out _ [] (plainElem_int Try.underlying3 (wrap64_wf _)) ?_; intro w3 hown3 hgrow3))
              have hw1 : wrap64 (cn + 1) = (cntV l kk a j x.2 : Int) + 1 := by
                rw [counted_is HC.out hat]
                have := cntV_le l kk a x.2 j
                simp only [wrap64]
                omega
              rw [hw1] at hown3
              have H3 := Lib.hid hown3
              have S3 := Lib.hid (HC.out.step (by omega) (HE1.out.trans HRA.out) x.2 HE2.out)
              have B3 := Lib.hid (BY.out.grown hgrow3 BY.out.size (fun q hq => by simp at hq; omega))
              clear hat hwc hown3 hgrow3 hw1
              go_roundw
              case rel => exact ⟨j + 1, _, by omega, by go_num, by rw [HV.out], H3.out, S3.out, B3.out⟩
              case measure => simp [intOf]; omega
          · have hq : ((r : Int) != (a : Int)) = true := by simp; omega
            have HV : Hid (lastV l (min (j + 1) kk) a = lastV l (min j kk) a) := Lib.hid (by
              by_cases hjk : j < kk
              · rw [show min (j + 1) kk = j + 1 by omega, show min j kk = j by omega, lastV_succ, HE1.out, if_neg hra]
              · rw [show min (j + 1) kk = min j kk by omega])
            have HRA := Lib.hid hra
            clear hra
            go_wp2_with fail
            go_roundw
            case rel => exact ⟨j + 1, D, by omega, by go_num, by rw [HV.out], MY.out.mono (Nat.le_succ _), HC.out.same (fun h => HRA.out (HE1.out.symm.trans h.2)), BY.out⟩
            case measure => simp [intOf]; omega
        · obtain rfl : m = j := by omega
          have HKN : Hid (a < EC.blks.length) := Lib.hid (by rw [HLC.out.n]; exact hlt)
          have B7 := Lib.hid (HB.out.trans (BX.out.mono HB.out.size))
          have D7 := Lib.hid (D5.out.keep B7.out)
          rw [show min m kk = kk by omega]
          obtain ⟨st, hst⟩ : ∃ st, st = lastV l kk a := ⟨_, rfl⟩
          have HST := Lib.hid hst
          rw [← hst]
          clear hst hjm hj BX
          go_wp2_with fail
          refine (read_yes _ D7.out a HLC.out.up HKN.out).mono ?_
          rintro e w8 ⟨g1, rfl, hg1, hm1, hb⟩
          have M8 := Lib.hid (ownsMap_same HM.out (hb.block _ HM.out.lt))
          have G8 := Lib.hid hm1
          have B8 := Lib.hid (B7.out.trans (hb.mono B7.out.size))
          have HRB := Lib.hid (readB_length HLC.out.ok a HKN.out)
          clear hm1 hb hg1 HM B7 D7
          go_wp2_with fail
          go_loopw [95] (fun i wx => ∃ k : Nat, k ≤ 128 ∧ i = .int .i64 (k : Int) ∧ Below w8.heap.size w8 wx) (fun i _ => 128 - (intOf i).toNat)
          case atStart => exact ⟨0, Nat.zero_le _, rfl, Below.refl _ _⟩
          case round =>
            obtain ⟨k, hk, rfl, hb⟩ := hrel
            have BK := Lib.hid hb
            have MK := Lib.hid (ownsMap_same M8.out (hb.block _ M8.out.lt))
            have GK := Lib.hid (G8.out.keep hb)
            clear hb
            by_cases hkb : k < 128
            · have j0 : (0 : Int) ≤ (k : Int) := by omega
              have j1 : (k : Int) < 128 := by omega
              have kw : IntKind.i64.wrap ((k : Int) + 1) = (k : Int) + 1 := IntWalk.i64_in _ (by omega)
              have hcell := GK.out.cell k (by rw [HRB.out]; exact hkb)
              obtain ⟨x, hx⟩ : ∃ x, x = (readB EC a)[k]'(by rw [HRB.out]; exact hkb) := ⟨_, rfl⟩
              rw [← hx, Nat.zero_add] at hcell
              have HXX := Lib.hid (HFC.out a k hlt hkb x (by rw [hx]; exact List.getElem?_eq_getElem _))
              have x28 := UInt8.toNat_lt x
              have hkey : keyOf Try.prog 5 (.int .u8 (x.toNat : Int)) = some (.int .u8 (x.toNat : Int)) := keyOf_int_mk Try.underlying5 (by simp [Lit.wf, IntKind.min, IntKind.max, IntKind.signed, IntKind.bits]; omega)
              obtain ⟨cn, hrun, hat, _⟩ := MK.out.lookup_int law8 Try.underlying34 Try.underlying3 (zeroInt _) hkey
              have hcn := counted_is HC.out hat
              clear hat hkey x28 hx
              by_cases hxs : x = st
              · have hq : ((x.toNat : Int) != (st.toNat : Int)) = false := by rw [hxs]; simp
                clear hrun hcn
                go_wp2_with fail
                go_roundw
                case rel => exact ⟨k + 1, by omega, by go_num, BK.out⟩
                case measure => simp [intOf]; omega
              · have hq : ((x.toNat : Int) != (st.toNat : Int)) = true := by
                  simp only [bne_iff_ne, ne_eq]
                  intro e
                  exact hxs (UInt8.toNat_inj.1 (by omega))
                have hpos : 0 < cntV l kk a m x := by
                  rcases HXX.out with h | h
                  · exact absurd (h.trans HST.out.symm) hxs
                  · exact h
                have hq2 : (cn == 0) = false := by rw [hcn]; exact beq_eq_false_iff_ne.2 (by omega)
                clear hcn hpos hxs
                go_wp2_with fail
                go_roundw
                case rel => exact ⟨k + 1, by omega, by go_num, BK.out⟩
                case measure => simp [intOf]; omega
            · obtain rfl : k = 128 := by omega
              have B9 := Lib.hid (B8.out.trans (BK.out.mono B8.out.size))
              clear hkb hk
              go_wp2_with fail
              go_roundw
              case rel => exact ⟨a + 1, by omega, by go_num, B9.out⟩
              case measure => simp [intOf]; omega
    · obtain rfl : a = 16 := by omega
      rw [show ((16 : Nat) : Int) = 16 from rfl]
      clear hlt hk
      go_wp2_with fail
      refine (awake_any _).mono ?_
      rintro e wz ⟨rfl, hbz⟩
      have BF := Lib.hid (B5.out.trans ((HB.out.trans (hbz.mono HB.out.size)).mono B5.out.size))
      clear hbz
      go_wp2_with fail
      go_ret
      exact ⟨rfl, BF.out⟩

theorem lawFirm (A : Option Addr) (n c : Nat) (l : List (UInt8 × UInt8)) (fl : UInt8) (K : Option Addr) (kn kc : Nat) (keep : List Bool) (torn cut : Int) (w : World) (hl : l.length = n) (hc : Cells w A (putcells l)) (hn : n ≤ c) (hm : c ≤ maxLen)
    (hkl : keep.length = kn) (hkc : Cells w K (kcells keep)) (hkn : kn ≤ kc) (hkm : kc ≤ maxLen) (hb : -9223372036854775808 ≤ cut ∧ cut ≤ 9223372036854775807) (hkb : ∀ a, K = some a → a.block < w.heap.size ∨ keep = []) :
    Calls Try.prog 3 #[.slice A n c, .int .u8 (fl.toNat : Int), .agg #[.slice K kn kc, .int .i64 torn, .int .i64 cut]] w fun e w' => e = .returned (.bool true) ∧ Below w.heap.size w w' :=
  firm_in A n c l fl K kn kc keep torn cut w _ hl hc hn hm rfl hkl hkc hkn hkm hb.1 hb.2 hkb

end Go.Proofs.Ytdnhlpddnbholaa
