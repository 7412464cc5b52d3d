/-
  catchmentref04.Decode: a page.
-/
import Derived.Test.YtcljobkdihbflaaShR4
import Derived.Deep.Cut
namespace Go.Proofs.Ytcljobkdihbflaa
open Go.RowKit
set_option linter.unusedVariables false
attribute [local go_sem ↓] Go.wp_at_zero Go.wp_at_succ

theorem isShelf_eq (p : List UInt8) (hp : isPage p = true) (hk : p.headD 0 = 3) (hm : manyOf (bodyOf p) ≤ 9) : isShelf p = (rightB (shelfOf p) && decide (pageOf 3 (sbody (shelfOf p)) = p)) := by
  rw [Bool.eq_iff_iff]
  simp only [Bool.and_eq_true, decide_eq_true_eq]
  constructor
  · intro h
    exact shelf_page p h
  · rintro ⟨h1, h2⟩
    have := (shelf_of_page (shelfOf p) h1).1
    rwa [h2] at this

theorem numAt0 : ∀ (b : List UInt8) (h : 0 < b.length), (b[0]'h).toNat = numAt b 0 1
  | a :: t, _ => by simp [numAt, num8, numFrom]
theorem rnum8 (g k c : Nat) (b : List UInt8) (w : World) (h : Mem8 w g 0 123 b) (h3 : k + 8 ≤ 123) :
    Calls Try.prog 30 #[.slice (some ⟨g, k, none⟩) 8 c] w fun e w' => e = .returned (.int .u64 (numAt b k 8 : Int)) ∧ w = w' := by
  have hs := h.sub k 8 (by omega)
  rw [Nat.zero_add] at hs
  exact number_any _ 8 c _ w hs.reads (by omega)
theorem rnum4 (g k c : Nat) (b : List UInt8) (w : World) (h : Mem8 w g 0 123 b) (h3 : k + 4 ≤ 123) :
    Calls Try.prog 30 #[.slice (some ⟨g, k, none⟩) 4 c] w fun e w' => e = .returned (.int .u64 (numAt b k 4 : Int)) ∧ w = w' := by
  have hs := h.sub k 4 (by omega)
  rw [Nat.zero_add] at hs
  exact number_any _ 4 c _ w hs.reads (by omega)

set_option maxHeartbeats 8000000 in
set_option maxRecDepth 100000 in
theorem rdecode_page (A : Option Addr) (n c : Nat) (p : List UInt8) (w : World) (h : Reads8 w A n p) (hn : n ≤ maxLen) (hnc : n ≤ c) (hp : isPage p = true) (hk : p.headD 0 = 3) (hm9 : manyOf (bodyOf p) ≤ 9) :
    Calls Try.prog 15 #[.slice A n c] w fun e w' => DecS p w e w' := by
  have HR := Lib.hid h; clear h
  have HP := Lib.hid hp; clear hp
  have HL := Lib.hid (bodyOf_length HP.out)
  have HK := Lib.hid hk; clear hk
  obtain ⟨W0, hW0⟩ : ∃ W0 : World, W0 = w.alloc (.cells #[.int .u8 0, .int .u32 0, .slice none 0 0] 25) := ⟨_, rfl⟩
  have B0 : Hid (Below w.heap.size w W0) := Lib.hid (by rw [hW0]; exact (Below.refl _ _).alloc (Nat.le_refl _) _)
  have hM : MemC W0 w.heap.size 0 [.int .u8 0, .int .u32 0, .slice none 0 0] := by rw [hW0]; exact MemC.new w [.int .u8 0, .int .u32 0, .slice none 0 0] 25
  have M0 := Lib.hid hM; clear hM
  have HW := Lib.hid hW0; clear hW0
  have hmb : [UInt8.ofNat (manyOf (bodyOf p))] = ((bodyOf p).drop 1).take 1 := byte_at (bodyOf p) 1 (by have := HL.out; omega)
  have hml := numAt_lt (bodyOf p) 1 1
  have HMB := Lib.hid hmb; clear hmb
  go_enter Try.func15, Try.ntmps15
  go_upto_region 1 with fail
  rw [← HW.out]
  clear HW
  go_wp2_with fail
  refine (ropen_yes A n c p _ (HR.out.keep B0.out) hnc HP.out).mono ?_
  rw [HK.out]
  rintro e w1 ⟨v, rfl, hF⟩
  obtain ⟨g, d, rfl, hg, hd, hdm, hM, hB⟩ := hF.open_ HL.out
  replace hM : Mem8 w1 g 0 123 (bodyOf p) := hM
  have h1 : w1.cell? ⟨g, 1, none⟩ = some (.int .u8 (manyOf (bodyOf p) : Int)) := by
    have hc := hM.cell 1 (by have := HL.out; omega)
    rw [Nat.zero_add] at hc
    rw [hc]
    have h2 := HMB.out
    rw [List.drop_eq_getElem_cons (by have := HL.out; omega), List.take_succ_cons, List.take_zero] at h2
    injection h2 with h2 _
    rw [← h2]
    have : (UInt8.ofNat (manyOf (bodyOf p))).toNat = manyOf (bodyOf p) := by
      have : manyOf (bodyOf p) < 256 := hml
      simp; omega
    rw [this]
  have M1 := Lib.hid (M0.out.keep hB)
  have B1 := Lib.hid (B0.out.trans (hB.mono B0.out.size))
  have P1 := Lib.hid hM
  have h0 : w1.cell? ⟨g, 0, none⟩ = some (.int .u8 (((bodyOf p)[0]'(by have := HL.out; omega)).toNat : Int)) := by
    have hc := hM.cell 0 (by have := HL.out; omega)
    rwa [Nat.zero_add] at hc
  have hsub := hM.sub 2 4 (by omega)
  have RS := Lib.hid hsub.reads
  clear hM hB hF hml hsub
  obtain ⟨x0, hx0⟩ : ∃ x, x = ((bodyOf p)[0]'(by have := HL.out; omega)).toNat := ⟨_, rfl⟩
  rw [← hx0] at h0
  have X0 := Lib.hid hx0; clear hx0
  generalize hmk : manyOf (bodyOf p) = m at *
  have HMK := Lib.hid hmk; clear hmk
  have hmi : ¬ (9 : Int) < (m : Int) := by omega
  go_upto_region 4 with fail
  have hd7 : (6 : Int) ≤ (d : Int) := by omega
  have hd8 : ¬ d = 2 := by omega
  have ln := numAt_lt (bodyOf p) 2 4
  have wu : IntKind.u32.wrap (num8 (((bodyOf p).drop 2).take 4) : Int) = (num8 (((bodyOf p).drop 2).take 4) : Int) := IntWalk.u32_in _ (by have : num8 (((bodyOf p).drop 2).take 4) < 256 ^ 4 := ln; omega)
  clear ln
  have hgw := World.block_lt_of_cell? w1 _ h0
  have kz := World.new_ne w1 _ h0
  go_cut [7] from 31 (fun s7 wx => s7 = .pointer (some ⟨w1.heap.size, 0, none⟩) ∧ MemC wx w1.heap.size 0 [.int .u8 (x0 : Int), .int .u32 (num8 (((bodyOf p).drop 2).take 4) : Int), .slice none 0 0] ∧ Below w1.heap.size w1 wx)
  case first =>
    go_region_held3 (fun w' => w'.cell? ⟨g, 0, none⟩ = some (.int .u8 (x0 : Int)))
      (go_keep)
      ((go_at_call 30; first
        | (refine (number_any _ 4 _ (((bodyOf p).drop 2).take 4) _ (RS.out.keep (Below.refl _ _).drew) (by omega)).mono ?_; rintro e w' ⟨rfl, rfl⟩)
        | (refine (number_any _ 4 _ (((bodyOf p).drop 2).take 4) _ (RS.out.keep ((Below.refl _ _).alloc (Nat.le_refl _) _).drew) (by omega)).mono ?_; rintro e w' ⟨rfl, rfl⟩)))
    all_goals
      go_wp2_with fail
      go_meet
      case rel => exact ⟨rfl, (MemC.new w1 _ 25).drew, ((Below.refl _ w1).alloc (Nat.le_refl _) _).drew⟩
  case rest =>
    obtain ⟨rfl, hms, hb2⟩ := hcut
    generalize wc = W2 at *
    have MS2 := Lib.hid hms
    have P2 := Lib.hid (P1.out.keep hb2)
    have M2 := Lib.hid (M1.out.keep hb2)
    have B2 := Lib.hid (B1.out.trans (hb2.mono B1.out.size))
    have h12 := (hb2.cell (p := ⟨g, 1, none⟩) hgw).trans h1
    have hgW2 : g < W2.heap.size := P2.out.lt
    have hS2 : w1.heap.size < W2.heap.size := hms.at_.lt
    have hR2 : w.heap.size < w1.heap.size := M1.out.at_.lt
    have LZ := Lib.hid (show g < W2.heap.size ∧ w1.heap.size < W2.heap.size ∧ w.heap.size < w1.heap.size ∧ g < w1.heap.size from ⟨hgW2, hS2, hR2, hgw⟩)
    clear hms hb2 hgW2 hS2 hR2 M1 P1 RS wu h0 h1
    generalize hx2 : num8 (((bodyOf p).drop 2).take 4) = x2 at *
    have X2 := Lib.hid hx2; clear hx2
    go_wp2_with fail
    go_loopw [8] (fun i wr => ∃ (k : Nat) (v : Value), k ≤ m ∧ i = .int .i64 k ∧ MemC wr w1.heap.size 0 [.int .u8 (x0 : Int), .int .u32 (x2 : Int), v] ∧ wr.ownsRow W2.heap.size 37 2 v k (ecells (entsOf (bodyOf p) k)) ∧ Below w1.heap.size W2 wr ∧ W2.heap.size ≤ wr.heap.size) (fun i _ => m - (intOf i).toNat)
    case atStart => exact ⟨0, _, Nat.zero_le _, rfl, MS2.out, World.ownsRow_nil _ _ _ _, Below.refl _ _, Nat.le_refl _⟩
    case round =>
      clear MS2
      obtain ⟨k, v, hk, rfl, hms, hown, hb, hle⟩ := hrel
      have HMS := Lib.hid hms; clear hms
      have HO := Lib.hid hown; clear hown
      have HB := Lib.hid hb; clear hb
      have HLE := Lib.hid hle; clear hle
      have h12r := (HB.out.cell (p := ⟨g, 1, none⟩) LZ.out.2.2.2).trans h12
      have PR := Lib.hid (P2.out.below HB.out LZ.out.2.2.2)
      clear h12
      by_cases hlt : k < m
      · obtain ⟨s2, sf2⟩ := HMS.out.get 2 _ rfl
        have ls := HMS.out.at_.lt
        have lb := numAt_lt (bodyOf p) (6 + 12 * k + 8) 4
        have lbi : IntKind.u32.wrap (numAt (bodyOf p) (6 + 12 * k + 8) 4 : Int) = (numAt (bodyOf p) (6 + 12 * k + 8) 4 : Int) := IntWalk.u32_in _ (by omega)
        clear lb
        have i1 : IntKind.i64.wrap (12 * (k : Int)) = 12 * (k : Int) := IntWalk.i64_in _ (by omega)
        have i2 : IntKind.i64.wrap (6 + 12 * (k : Int)) = 6 + 12 * (k : Int) := IntWalk.i64_in _ (by omega)
        have i3 : IntKind.i64.wrap (6 + 12 * (k : Int) + 8) = 6 + 12 * (k : Int) + 8 := IntWalk.i64_in _ (by omega)
        have i4 : IntKind.i64.wrap (6 + 12 * (k : Int) + 12) = 6 + 12 * (k : Int) + 12 := IntWalk.i64_in _ (by omega)
        have j1 : (6 : Int) + 12 * (k : Int) + 8 ≤ (d : Int) := by omega
        have j2 : (6 : Int) + 12 * (k : Int) + 12 ≤ (d : Int) := by omega
        have j3 : (0 : Int) ≤ 6 + 12 * (k : Int) := by omega
        have j4 : (0 : Int) ≤ 6 + 12 * (k : Int) + 8 := by omega
        have j5 : (0 : Int) ≤ 6 + 12 * (k : Int) + 12 := by omega
        have j6 : (6 : Int) + 12 * (k : Int) ≤ 6 + 12 * (k : Int) + 8 := by omega
        have j7 : (6 : Int) + 12 * (k : Int) + 8 ≤ 6 + 12 * (k : Int) + 12 := by omega
        have t1 : ((6 : Int) + 12 * (k : Int)).toNat = 6 + 12 * k := by omega
        have t2 : ((6 : Int) + 12 * (k : Int) + 8).toNat = 6 + 12 * k + 8 := by omega
        have t3 : ((6 : Int) + 12 * (k : Int) + 12).toNat = 6 + 12 * k + 12 := by omega
        have t4 : 6 + 12 * k + 8 - (6 + 12 * k) = 8 := by omega
        have t5 : 6 + 12 * k + 12 - (6 + 12 * k + 8) = 4 := by omega
        have t6 : ¬ d = 6 + 12 * k := by omega
        have t7 : ¬ d = 6 + 12 * k + 8 := by omega
        have ki : (k : Int) < (m : Int) := by omega
        go_wp2_with fail
        go_region_law
          ((first
            | (refine step_appendC (by rfl) _ _ 23 (by rfl) W2.heap.size 37 (.agg #[.int .u64 0, .int .u32 0]) 2 16 Try.underlying23 entinfo rfl (by omega) v k (ecells (entsOf (bodyOf p) k)) (by rfl) ?_ (some ⟨wr.heap.size, 0, none⟩) 1 1 (ecell (entAt (bodyOf p) k)) (by rfl) (by rfl) ?_ (ecell_one _) (by simp only [maxLen]; omega) (by omega) ?_ ?_; (exact (own_drew HO.out).alloc _); (rw [ecell_at]; exact (MemC.new wr.drew _ 37).cells); (have h2 := HLE.out; simp; omega); intro v' w' hown hgrow hnil hat; have hne : v' ≠ .slice none 0 0 := (by simpa using hnil); have rc := (hgrow.cell_far ⟨w1.heap.size, 2, none⟩ (by simp; omega) (own_block HO.out LZ.out.2.1)).trans ((cell_alloc_far _ _ _ _ ls).trans s2); have rf := (hgrow.frozen_far ⟨w1.heap.size, 2, none⟩ (by simp; omega) (own_block HO.out LZ.out.2.1)).trans ((frozen_alloc_far _ _ _ _ ls).trans sf2); obtain ⟨g3, d3, rfl, _⟩ := own_shapeC hown hne)
            | (go_simp; go_at_call 30; with_reducible refine (rnum8 g (6 + 12 * k) _ (bodyOf p) _ ?_ ?_).mono ?_; exact PR.out.drew; omega; rintro e w' ⟨rfl, rfl⟩)
            | (go_simp; go_at_call 30; with_reducible refine (rnum4 g (6 + 12 * k + 8) _ (bodyOf p) _ ?_ ?_).mono ?_; exact PR.out.drew; omega; rintro e w' ⟨rfl, rfl⟩)))
        all_goals
          have hb9 : Below W2.heap.size wr w' := (((Below.refl _ wr).drew).alloc HLE.out _).grown hgrow (by have h2 := HLE.out; simp; omega) (own_base HO.out)
          have oS := Only.set w' w1.heap.size w1.heap.size 2 (.slice (some ⟨g3, 0, none⟩) (k + 1) d3)
          have ms10 := Lib.hid ((HMS.out.below hb9 LZ.out.2.1).setAt 2 (by simp) (.slice (some ⟨g3, 0, none⟩) (k + 1) d3))
          have ow10 := Lib.hid (own_only hown oS LZ.out.2.1 LZ.out.2.1)
          have b10 := Lib.hid ((HB.out.trans (hb9.mono (Nat.le_of_lt LZ.out.2.1))).trans (oS.below (Nat.le_refl _) (Nat.le_refl _)))
          have le10 : Hid (W2.heap.size ≤ (w'.setCell ⟨w1.heap.size, 2, none⟩ (.slice (some ⟨g3, 0, none⟩) (k + 1) d3)).heap.size) := Lib.hid (by have := hb9.size; have := oS.size; have := HLE.out; omega)
          clear hb9 oS hown hgrow hnil hat hne rc rf s2 sf2 ls lbi i1 i2 i3 i4 j1 j2 j3 j4 j5 j6 j7 t1 t2 t3 t4 t5 t6 t7
          go_wp2_with fail
          go_roundw
          case rel => exact ⟨k + 1, _, by omega, by go_num, ms10.out, by rw [entsOf_succ, ecells_snoc]; exact ow10.out, b10.out, le10.out⟩
          case measure => simp [intOf]; omega
      · obtain rfl : k = m := by omega
        obtain ⟨A', c', rfl, hrd, hkc, hcm⟩ := own_readsE HO.out
        have z0 : x0 = numAt (bodyOf p) 0 1 := by
          rw [X0.out]
          exact numAt0 _ _
        have z2 : x2 = numAt (bodyOf p) 2 4 := X2.out.symm
        have l0 := numAt_lt (bodyOf p) 0 1
        have l2 := numAt_lt (bodyOf p) 2 4
        have e0 : (UInt8.ofNat x0).toNat = x0 := by simp; omega
        have e2 : (UInt32.ofNat x2).toNat = x2 := by simp; omega
        have hs : shelfOf p = ⟨UInt8.ofNat x0, UInt32.ofNat x2, entsOf (bodyOf p) k⟩ := by
          unfold shelfOf shelfAt
          rw [HMK.out, ← z0, ← z2]
        have hiS := isShelf_eq p HP.out HK.out (by rw [HMK.out]; omega)
        obtain ⟨s, hsd⟩ : ∃ s, s = shelfOf p := ⟨_, rfl⟩
        rw [← hsd] at hs hiS
        have hsv : Value.agg #[.int .u8 (x0 : Int), .int .u32 (x2 : Int), .slice A' k c'] = sval s A' k c' := by
          unfold sval
          rw [hs]
          show _ = Value.agg #[.int .u8 ((UInt8.ofNat x0).toNat : Int), .int .u32 ((UInt32.ofNat x2).toNat : Int), .slice A' k c']
          rw [e0, e2]
        have hse : s.ents = entsOf (bodyOf p) k := by rw [hs]
        rw [← hse] at hrd
        have HRD := Lib.hid hrd
        have HIS := Lib.hid hiS
        have HSV := Lib.hid hsv
        have HSE := Lib.hid hse
        have HSD := Lib.hid hsd
        have MR := Lib.hid (M2.out.below HB.out LZ.out.2.2.1)
        have BR := Lib.hid (B2.out.trans (HB.out.mono (Nat.le_of_lt LZ.out.2.2.1)))
        obtain ⟨s0, _⟩ := HMS.out.get 0 _ rfl
        obtain ⟨s1, _⟩ := HMS.out.get 1 _ rfl
        obtain ⟨s2, _⟩ := HMS.out.get 2 _ rfl
        clear hiS hsv hse hsd hs e0 e2 hrd hlt z0 z2 l0 l2
        cases hr : rightB s
        · have HRT := Lib.hid hr; clear hr
          go_wp2_with fail
          rw [HSV.out]
          refine (rencode_wrong s A' k c' _ HRD.out (by simp only [maxLen]; omega) HRT.out).mono ?_
          rintro e w8 ⟨rfl, hb8⟩
          obtain ⟨q0, r0⟩ := (MR.out.keep hb8).get 0 _ rfl
          obtain ⟨q1, r1⟩ := (MR.out.keep hb8).get 1 _ rfl
          obtain ⟨q2, r2⟩ := (MR.out.keep hb8).get 2 _ rfl
          have B8 := Lib.hid (BR.out.trans (hb8.mono BR.out.size))
          have HNO : Hid (isShelf p = false) := Lib.hid (by rw [HIS.out, HRT.out]; rfl)
          clear hb8 s0 s1 s2
          go_wp2_with fail
          refine bodyPost_ret (v := .tuple #[sz, .int .i64 40]) (by simp [results, Try.results15, go_sem, sz, q0, q1, q2]) rfl (.inr ⟨HNO.out, rfl, ?_⟩)
          exact below_set3 B8.out (Nat.le_refl _) _ _ _
        · have HRT := Lib.hid hr; clear hr
          have h9 := (rightB_iff.1 HRT.out).2.2.1
          have hpl : (pageOf 3 (sbody s)).length = 128 := pageOf_length 3 _ (by rw [sbody_length]; omega)
          have HPL := Lib.hid hpl
          clear h9 hpl
          go_wp2_with fail
          rw [HSV.out]
          refine (rencode_right s A' k c' _ HRD.out HRT.out).mono ?_
          rintro e w8 ⟨v, rfl, hF⟩
          rw [← HSV.out]
          obtain ⟨g5, d5, rfl, hg5, hd5, hdm5, hM5, hb8⟩ := hF.open_ HPL.out
          obtain ⟨q0, r0⟩ := (MR.out.keep hb8).get 0 _ rfl
          obtain ⟨q1, r1⟩ := (MR.out.keep hb8).get 1 _ rfl
          obtain ⟨q2, r2⟩ := (MR.out.keep hb8).get 2 _ rfl
          have B8 := Lib.hid (BR.out.trans (hb8.mono BR.out.size))
          have MS8 := HMS.out.keep hb8
          obtain ⟨p0, _⟩ := MS8.get 0 _ rfl
          obtain ⟨p1, _⟩ := MS8.get 1 _ rfl
          obtain ⟨p2, _⟩ := MS8.get 2 _ rfl
          have HO8 := Lib.hid (own_keep HO.out hb8)
          have c1 := conv8 _ _ d5 _ _ hM5.reads
          have c2 := conv8 _ _ c _ _ (HR.out.keep B8.out)
          clear hF hM5 hb8 s0 s1 s2 MS8
          by_cases hq : pageOf 3 (sbody s) = p
          · rw [hq] at c1
            have HY : Hid (isShelf p = true) := Lib.hid (by rw [HIS.out, HRT.out, decide_eq_true hq]; rfl)
            clear hq
            go_wp2_with fail
            refine bodyPost_ret (v := .tuple #[.agg #[.int .u8 (x0 : Int), .int .u32 (x2 : Int), .slice A' k c'], .int .i64 0]) (by simp [results, Try.results15, go_sem, q0, q1, q2]) rfl ?_
            refine .inl ⟨HY.out, .slice A' k c', W2.heap.size, ?_, by have := LZ.out.2.2.1; have := LZ.out.2.1; omega, ?_, below_set3 B8.out (Nat.le_refl _) _ _ _⟩
            · rw [HSV.out, ← HSD.out]; rfl
            · rw [← HSD.out, HSE.out, entsOf_length]
              refine own_only (P := w.heap.size) (g := w.heap.size) HO8.out ?_ (by have := LZ.out.2.2.1; have := LZ.out.2.1; omega) (by have := LZ.out.2.2.1; have := LZ.out.2.1; omega)
              exact ((Only.set _ _ _ _ _).trans (Only.set _ _ _ _ _)).trans (Only.set _ _ _ _ _)
          · have HNO : Hid (isShelf p = false) := Lib.hid (by rw [HIS.out, HRT.out, decide_eq_false hq]; rfl)
            have hne : (pageOf 3 (sbody s) == p) = false := by simpa using hq
            clear hq
            generalize pageOf 3 (sbody s) = q at *
            go_wp2_with fail
            refine bodyPost_ret (v := .tuple #[sz, .int .i64 40]) (by simp [results, Try.results15, go_sem, sz, q0, q1, q2]) rfl (.inr ⟨HNO.out, rfl, ?_⟩)
            exact below_set3 B8.out (Nat.le_refl _) _ _ _

theorem rdecode_any (A : Option Addr) (n c : Nat) (p : List UInt8) (w : World) (h : Reads8 w A n p) (hn : n ≤ maxLen) (hnc : n ≤ c) :
    Calls Try.prog 15 #[.slice A n c] w fun e w' => DecS p w e w' := by
  cases hp : isPage p
  · exact (rdecode_none A n c p w h hn hnc hp).mono fun e w' ⟨h1, h2⟩ => .inr ⟨by unfold isShelf; rw [hp]; rfl, h1, h2⟩
  · by_cases hk : p.headD 0 = 3
    · by_cases hm : manyOf (bodyOf p) ≤ 9
      · exact rdecode_page A n c p w h hn hnc hp hk hm
      · refine (rdecode_many A n c p w h hn hnc hp hk (by omega)).mono fun e w' ⟨h1, h2⟩ => .inr ⟨?_, h1, h2⟩
        cases hi : isShelf p
        · rfl
        · unfold isShelf at hi
          simp only [Bool.and_eq_true, decide_eq_true_eq] at hi
          exact absurd hi.2.2.1 hm
    · refine (rdecode_kind A n c p w h hn hnc hp hk).mono fun e w' ⟨h1, h2⟩ => .inr ⟨?_, h1, h2⟩
      cases hi : isShelf p
      · rfl
      · exact absurd (isShelf_head p hi) hk

end Go.Proofs.Ytcljobkdihbflaa
