/-
  catchmentref06.Decode.
-/
import Derived.Test.YtfnoeligaapnbaaSuM
namespace Go.Proofs.Ytfnoeligaapnbaa
open Go.RowKit
set_option linter.unusedVariables false
set_option linter.unusedSimpArgs false
attribute [local go_sem ↓] Go.wp_at_zero Go.wp_at_succ

theorem isSup_eq (p : List UInt8) : isSup p = (rightS (supOf (bodyOf p)) && decide (spage (supOf (bodyOf p)) = p)) := by
  cases h : isSup p
  · cases h1 : rightS (supOf (bodyOf p))
    · rfl
    · rw [Bool.true_and, decide_eq_false]
      intro e
      have h2 := isSup_page (supOf (bodyOf p))
      rw [e, h, h1] at h2
      cases h2
  · obtain ⟨h1, h2⟩ := page_of_isSup h
    rw [h2, decide_eq_true h1]
    rfl
theorem isSup_notPage {p : List UInt8} (h : isPage p = false) : isSup p = false := by unfold isSup; rw [h]; rfl

/-- Behind k rounds of the document's reading. -/
def supD (b : List UInt8) (k : Nat) : Sup := supF fun j => if j < 2 + k ∨ (10 ≤ j ∧ j < 10 + k) then getF b j else 0
theorem fval_supD (b : List UInt8) (k j : Nat) (h : j < 18) : fval (supD b k) j = if j < 2 + k ∨ (10 ≤ j ∧ j < 10 + k) then getF b j else 0 := by
  refine fval_supF _ j h ?_
  split
  · exact getF_lt b j
  · exact Nat.pow_pos (by decide)
theorem supD_all (b : List UInt8) : supD b 8 = supOf b := sup_ext fun k hk => by rw [fval_supD b 8 k hk, if_pos (by omega), fval_supOf b k hk]
theorem supD_step (b : List UInt8) (k : Nat) (h : k < 8) : scells (supD b (k + 1)) = ((scells (supD b k)).set (2 + k) (cellv (2 + k) (getF b (2 + k)))).set (10 + k) (cellv (10 + k) (getF b (10 + k))) := by
  apply List.ext_getElem?
  intro j
  by_cases hj : j < 18
  · rw [scells_at _ j hj, fval_supD _ _ _ hj, List.getElem?_set, List.getElem?_set]
    by_cases e : 10 + k = j
    · subst e
      rw [if_pos rfl, if_pos (by omega), if_pos (by rw [List.length_set, scells_length]; omega)]
    · rw [if_neg e]
      by_cases e2 : 2 + k = j
      · subst e2
        rw [if_pos rfl, if_pos (by omega), if_pos (by rw [scells_length]; omega)]
      · rw [if_neg e2, scells_at _ j hj, fval_supD _ _ _ hj]
        by_cases h1 : j < 2 + k ∨ (10 ≤ j ∧ j < 10 + k)
        · rw [if_pos (by omega), if_pos h1]
        · rw [if_neg (by omega), if_neg h1]
  · rw [List.getElem?_eq_none (by rw [scells_length]; omega), List.getElem?_eq_none (by rw [List.length_set, List.length_set, scells_length]; omega)]
theorem supD_zero (b : List UInt8) : scells (supD b 0) = [.int .u64 (getF b 0 : Int), .int .u32 (getF b 1 : Int), .int .u32 0, .int .u32 0, .int .u32 0, .int .u32 0, .int .u32 0, .int .u32 0, .int .u32 0, .int .u32 0, .int .u64 0, .int .u64 0, .int .u64 0, .int .u64 0, .int .u64 0, .int .u64 0, .int .u64 0, .int .u64 0] := by
  have h := lit_sval (supD b 0)
  have e : ∀ j, j < 18 → fval (supD b 0) j = if j < 2 then getF b j else 0 := fun j hj => by
    rw [fval_supD b 0 j hj]
    by_cases h1 : j < 2
    · rw [if_pos (by omega), if_pos h1]
    · rw [if_neg (by omega), if_neg h1]
  rw [e 0 (by decide), e 1 (by decide), e 2 (by decide), e 3 (by decide), e 4 (by decide), e 5 (by decide), e 6 (by decide), e 7 (by decide), e 8 (by decide), e 9 (by decide), e 10 (by decide), e 11 (by decide), e 12 (by decide), e 13 (by decide), e 14 (by decide), e 15 (by decide), e 16 (by decide), e 17 (by decide)] at h
  unfold sval at h
  injection h with h
  have h2 := congrArg Array.toList h
  rw [List.toList_toArray] at h2
  exact h2.symm

/-- Number, of a piece of a body. -/
theorem rnumF (g d k : Nat) (b : List UInt8) (w : World) (h : Reads8 w (some ⟨g, 0, none⟩) 123 b) (hk : k < 18) (m : Nat) :
    Calls Try.prog 33 #[.slice (some ⟨g, foff k, none⟩) (fsize k) m] w fun e w' => e = .returned (.int .u64 (getF b k : Int)) ∧ w = w' := by
  have h1 := foff_succ k
  have h2 := foff_mono (show k + 1 ≤ 18 by omega)
  rw [foff_end] at h2
  have h3 := fsize_le k
  have hs := h.sub (foff k) (fsize k) (by omega) (by omega)
  rw [Nat.zero_add] at hs
  exact number_any _ _ _ _ _ hs (by omega)

set_option maxRecDepth 100000 in
set_option maxHeartbeats 8000000 in
theorem rdecode_any (A : Option Addr) (n c : Nat) (p : List UInt8) (w : World) (h : Reads8 w A n p) (hn : n ≤ maxLen) (hnc : n ≤ c) :
    Calls Try.prog 15 #[.slice A n c] w fun e w' => e = .returned (.tuple #[sval (decS p), .int .i64 (decE p)]) ∧ Below w.heap.size w w' := by
  have HR := Lib.hid h; clear h
  go_enter Try.func15, Try.ntmps15
  go_wp2_with (refine wl_alloc rfl (by rfl) ?_)
  intro W0 hb0 hm0 hs0
  have B0 := Lib.hid hb0
  have M0 := Lib.hid hm0
  clear hb0 hm0 hs0
  go_wp2_with fail
  cases hp : isPage p
  · have HB : Hid (isSup p = false) := Lib.hid (isSup_notPage hp)
    refine (ropen_no A n c p _ (HR.out.keep B0.out) hn hnc hp).mono ?_
    rintro e w1 ⟨rfl, q, hq⟩
    have hb1 : Below W0.heap.size W0 w1 := by rw [hq]; exact bdn W0 q
    have M1 := Lib.hid (M0.out.keep hb1)
    have B1 := Lib.hid (B0.out.trans (hb1.mono B0.out.size))
    clear hp hq hb1 B0 M0
    go_wp2_with (first | refine wl_build0 rfl (by rfl) ?_ | refine wl_store (.tmp 2) (.tmp 19) rfl (by rfl) w.heap.size noS noS rfl rfl M1.out ?_)
    intro W4 hb4 hm4
    have NB := Lib.hid (B1.out.trans (hb4.below (Nat.le_refl _)))
    have N4 := Lib.hid hm4
    clear hb4 hm4
    go_wp2_with fail
    refine bodyPost_ret (v := .tuple #[sval noS, .int .i64 60]) (by simp [results, Try.results15, Sem.run_bind, Sem.run_pure, asAddr, load_var N4.out]) rfl ⟨?_, NB.out⟩
    unfold decS decE
    rw [HB.out]
    rfl
  · have H123 : Hid ((bodyOf p).length = 123) := Lib.hid (by
      have : p.length = 128 := by have h1 := hp; unfold isPage at h1; simp only [Bool.and_eq_true, decide_eq_true_eq] at h1; exact h1.1
      unfold bodyOf; simp; omega)
    refine (ropen_yes A n c p _ (HR.out.keep B0.out) hnc hp).mono ?_
    rintro e w1 ⟨v, rfl, hF⟩
    obtain ⟨g, d, rfl, hg, hd, hdm, hM, hb⟩ := hF.open_ H123.out
    replace hM : Mem8 w1 g 0 123 (bodyOf p) := hM
    have M1 := Lib.hid (M0.out.keep hb)
    have B1 := Lib.hid (B0.out.trans (hb.mono B0.out.size))
    have R1 := Lib.hid hM.reads
    have HG := Lib.hid (show w.heap.size < g ∧ g < w1.heap.size from ⟨Nat.lt_of_lt_of_le M0.out.at_.lt hg, hM.lt⟩)
    clear hp hM hb hF B0 M0 hg
    have d8 : ¬ d = 8 := by omega
    have hx0 : getF (bodyOf p) 0 < 18446744073709551616 := getF_lt (bodyOf p) 0
    have hx1 : getF (bodyOf p) 1 < 4294967296 := getF_lt (bodyOf p) 1
    have c0 : ∀ W m, Reads8 W (some ⟨g, 0, none⟩) 123 (bodyOf p) → Calls Try.prog 33 #[.slice (some ⟨g, 0, none⟩) 8 m] W fun e w' => e = .returned (.int .u64 (getF (bodyOf p) 0 : Int)) ∧ W = w' := fun W m hW => rnumF g d 0 (bodyOf p) W hW (by decide) m
    have c1 : ∀ W m, Reads8 W (some ⟨g, 0, none⟩) 123 (bodyOf p) → Calls Try.prog 33 #[.slice (some ⟨g, 8, none⟩) 4 m] W fun e w' => e = .returned (.int .u64 (getF (bodyOf p) 1 : Int)) ∧ W = w' := fun W m hW => rnumF g d 1 (bodyOf p) W hW (by decide) m
    have C0 := Lib.hid c0
    have C1 := Lib.hid c1
    clear c0 c1
    obtain ⟨x0, e0⟩ : ∃ x, x = getF (bodyOf p) 0 := ⟨_, rfl⟩
    obtain ⟨x1, e1⟩ : ∃ x, x = getF (bodyOf p) 1 := ⟨_, rfl⟩
    have HZ : Hid (scells (supD (bodyOf p) 0) = [.int .u64 (x0 : Int), .int .u32 (x1 : Int), .int .u32 0, .int .u32 0, .int .u32 0, .int .u32 0, .int .u32 0, .int .u32 0, .int .u32 0, .int .u32 0, .int .u64 0, .int .u64 0, .int .u64 0, .int .u64 0, .int .u64 0, .int .u64 0, .int .u64 0, .int .u64 0]) := Lib.hid (by rw [e0, e1]; exact supD_zero _)
    rw [← e0] at C0 hx0
    rw [← e1] at C1 hx1
    have w1x : IntKind.u32.wrap (x1 : Int) = (x1 : Int) := IntWalk.u32_in _ (by omega)
    have HX := Lib.hid (And.intro hx0 hx1)
    clear e0 e1 hx0 hx1
    have q1 : (8 : Int) ≤ (d : Int) := by omega
    have q2 : (12 : Int) ≤ (d : Int) := by omega
    have q3 : (0 : Int) ≤ (d : Int) := by omega
    go_upto_region 4 with fail
    go_cut [7] from 20 (fun s7 wx => s7 = .pointer (some ⟨w1.heap.size, 0, none⟩) ∧ MemC wx w1.heap.size 0 (scells (supD (bodyOf p) 0)) ∧ Below w1.heap.size w1 wx)
    case first =>
      go_region_held3 (fun w' => Reads8 w' (some ⟨g, 0, none⟩) 123 (bodyOf p))
        (first | exact R1.out | exact R1.out.keep (Below.refl _ _).drew | exact R1.out.keep ((Below.refl _ _).alloc (Nat.le_refl _) _).drew | exact R1.out.keep ((Below.refl _ _).alloc (Nat.le_refl _) _))
        ((first
          | (go_simp; go_at_call 33; with_reducible refine (C0.out _ _ ?_).mono ?_; assumption; rintro e w' ⟨rfl, rfl⟩)
          | (go_simp; go_at_call 33; with_reducible refine (C1.out _ _ ?_).mono ?_; assumption; rintro e w' ⟨rfl, rfl⟩)))
      all_goals
        go_wp2_with fail
        go_meet
        case rel =>
          refine ⟨rfl, ?_, ?_⟩
          · rw [HZ.out]
            exact (MemC.new w1 _ 27).drew
          · exact ((Below.refl _ w1).alloc (Nat.le_refl _) _).drew
    case rest =>
      obtain ⟨rfl, hms, hb2⟩ := hcut
      have HMS := Lib.hid hms
      have HB2 := Lib.hid hb2
      clear hms hb2 C0 C1 HZ HX w1x
      go_wp2_with fail
      go_loopw [8] (fun i wr => ∃ k : Nat, k ≤ 8 ∧ i = .int .i64 (k : Int) ∧ MemC wr w1.heap.size 0 (scells (supD (bodyOf p) k)) ∧ Below w1.heap.size w1 wr) (fun i _ => 8 - (intOf i).toNat)
      case atStart => exact ⟨0, Nat.zero_le _, rfl, HMS.out, HB2.out⟩
      case round =>
        clear HMS HB2
        obtain ⟨k, hk, rfl, hm, hb⟩ := hrel
        have HM := Lib.hid hm; clear hm
        have HB := Lib.hid hb; clear hb
        by_cases hlt : k < 8
        · have hf1 : foff (2 + k) = 12 + 4 * k := by unfold foff; rw [if_neg (by omega), if_pos (by omega)]; omega
          have hf2 : foff (10 + k) = 44 + 8 * k := by unfold foff; rw [if_neg (by omega), if_neg (by omega)]; omega
          have hs1 : fsize (2 + k) = 4 := by unfold fsize; rw [if_neg (by omega), if_pos (by omega)]
          have hs2 : fsize (10 + k) = 8 := by unfold fsize; rw [if_neg (by omega), if_neg (by omega)]
          have e1 := getF_lt (bodyOf p) (2 + k)
          have c1 : ∀ W m, Reads8 W (some ⟨g, 0, none⟩) 123 (bodyOf p) → Calls Try.prog 33 #[.slice (some ⟨g, 12 + 4 * k, none⟩) 4 m] W fun e w' => e = .returned (.int .u64 (getF (bodyOf p) (2 + k) : Int)) ∧ W = w' := fun W m hW => by
            have := rnumF g d (2 + k) (bodyOf p) W hW (by omega) m
            rwa [hf1, hs1] at this
          have c2 : ∀ W m, Reads8 W (some ⟨g, 0, none⟩) 123 (bodyOf p) → Calls Try.prog 33 #[.slice (some ⟨g, 44 + 8 * k, none⟩) 8 m] W fun e w' => e = .returned (.int .u64 (getF (bodyOf p) (10 + k) : Int)) ∧ W = w' := fun W m hW => by
            have := rnumF g d (10 + k) (bodyOf p) W hW (by omega) m
            rwa [hf2, hs2] at this
          have hst := supD_step (bodyOf p) k hlt
          have v1 : cellv (2 + k) (getF (bodyOf p) (2 + k)) = .int .u32 (getF (bodyOf p) (2 + k) : Int) := by unfold cellv fkind; rw [hs1]; rfl
          have v2 : cellv (10 + k) (getF (bodyOf p) (10 + k)) = .int .u64 (getF (bodyOf p) (10 + k) : Int) := by unfold cellv fkind; rw [hs2]; rfl
          rw [v1, v2] at hst
          rw [hs1] at e1
          obtain ⟨x, hx⟩ : ∃ x, x = getF (bodyOf p) (2 + k) := ⟨_, rfl⟩
          obtain ⟨y, hy⟩ : ∃ y, y = getF (bodyOf p) (10 + k) := ⟨_, rfl⟩
          rw [← hx] at e1 c1 hst
          rw [← hy] at c2 hst
          have e2 : x < 4294967296 := e1
          have wx : IntKind.u32.wrap (x : Int) = (x : Int) := IntWalk.u32_in _ (by omega)
          have HC1 := Lib.hid c1
          have HC2 := Lib.hid c2
          have HST := Lib.hid hst
          have HK := Lib.hid hlt
          clear hx hy e1 e2 c1 c2 hst v1 v2 hs1 hs2 hf1 hf2
          have RW := Lib.hid (R1.out.keep HB.out)
          obtain ⟨c0, z0⟩ := HM.out.gets (2 + k) _ (List.getElem?_eq_getElem (by rw [scells_length]; omega))
          obtain ⟨u0, hu0⟩ : ∃ u, u = (scells (supD (bodyOf p) k))[2 + k]'(by rw [scells_length]; omega) := ⟨_, rfl⟩
          rw [← hu0] at c0
          clear hu0
          have k0 : (0 : Int) ≤ (k : Int) := Int.natCast_nonneg _
          have k1 : (k : Int) < 8 := by omega
          have j1 : (0 : Int) ≤ 12 + 4 * (k : Int) := by omega
          have j2 : (12 : Int) + 4 * (k : Int) ≤ 16 + 4 * (k : Int) := by omega
          have j3 : (16 : Int) + 4 * (k : Int) ≤ (d : Int) := by omega
          have t1 : ((12 : Int) + 4 * (k : Int)).toNat = 12 + 4 * k := by omega
          have t2 : ((16 : Int) + 4 * (k : Int)).toNat = 16 + 4 * k := by omega
          have t3 : 16 + 4 * k - (12 + 4 * k) = 4 := by omega
          have t4 : ¬ d = 12 + 4 * k := by omega
          have l1 : (0 : Int) ≤ 44 + 8 * (k : Int) := by omega
          have l2 : (44 : Int) + 8 * (k : Int) ≤ 52 + 8 * (k : Int) := by omega
          have l3 : (52 : Int) + 8 * (k : Int) ≤ (d : Int) := by omega
          have s1 : ((44 : Int) + 8 * (k : Int)).toNat = 44 + 8 * k := by omega
          have s2 : ((52 : Int) + 8 * (k : Int)).toNat = 52 + 8 * k := by omega
          have s3 : 52 + 8 * k - (44 + 8 * k) = 8 := by omega
          have s4 : ¬ d = 44 + 8 * k := by omega
          go_wp2_with fail
          refine (HC1.out _ _ RW.out).mono ?_
          rintro e w' ⟨rfl, rfl⟩
          go_wp2_with fail
          obtain ⟨WA, hWA⟩ : ∃ W : World, W = wr.setCell ⟨w1.heap.size, 2 + k, none⟩ (.int .u32 (x : Int)) := ⟨_, rfl⟩
          rw [← hWA]
          have mA : MemC WA w1.heap.size 0 ((scells (supD (bodyOf p) k)).set (2 + k) (.int .u32 (x : Int))) := by rw [hWA]; exact HM.out.setAt (2 + k) (by rw [scells_length]; omega) _
          have bA : Below w1.heap.size w1 WA := by rw [hWA]; exact HB.out.setCell (p := ⟨w1.heap.size, 2 + k, none⟩) (Nat.le_refl _) _
          have MA := Lib.hid mA
          have BA := Lib.hid bA
          have RA := Lib.hid (R1.out.keep bA)
          clear hWA mA bA c0 z0 RW HM HB
          obtain ⟨c3, z3⟩ := MA.out.gets (10 + k) _ (List.getElem?_eq_getElem (by rw [List.length_set, scells_length]; omega))
          obtain ⟨u3, hu3⟩ : ∃ u, u = ((scells (supD (bodyOf p) k)).set (2 + k) (.int .u32 (x : Int)))[10 + k]'(by rw [List.length_set, scells_length]; omega) := ⟨_, rfl⟩
          rw [← hu3] at c3
          clear hu3
          refine (HC2.out _ _ RA.out).mono ?_
          rintro e w' ⟨rfl, rfl⟩
          go_wp2_with fail
          go_roundw
          case rel => exact ⟨k + 1, HK.out, by go_num, by rw [HST.out]; exact MA.out.setAt (10 + k) (by rw [List.length_set, scells_length]; have := HK.out; omega) _, BA.out.setCell (p := ⟨w1.heap.size, 10 + k, none⟩) (Nat.le_refl _) _⟩
          case measure => have := HK.out; simp [intOf]; omega
        · obtain rfl : k = 8 := by omega
          have HS : Hid (MemC wr w1.heap.size 0 (scells (supOf (bodyOf p)))) := Lib.hid (by rw [← supD_all]; exact HM.out)
          have M5 := Lib.hid (M1.out.keep HB.out)
          have B5 := Lib.hid (B1.out.trans (HB.out.mono B1.out.size))
          have HIS := Lib.hid (isSup_eq p)
          rw [show ((8 : Nat) : Int) = 8 from rfl]
          clear HM HB M1 B1 q1 q2 q3 d8
          obtain ⟨s, hs⟩ : ∃ s, s = supOf (bodyOf p) := ⟨_, rfl⟩
          have HSD := Lib.hid hs
          rw [← hs] at HS HIS
          clear hs
          go_wp2_with (refine wl_load (.tmp 7) rfl (by rfl) w1.heap.size s rfl HS.out ?_)
          cases hr : rightS s
          · have HN : Hid (isSup p = false) := Lib.hid (by rw [HIS.out, hr]; rfl)
            refine (rencode_bad s _ hr).mono ?_
            rintro e w6 ⟨rfl, hb6⟩
            have M6 := Lib.hid (M5.out.keep hb6)
            have B6 := Lib.hid (B5.out.trans (hb6.mono B5.out.size))
            clear hr hb6 M5 B5
            go_wp2_with (first | refine wl_build0 rfl (by rfl) ?_ | refine wl_store (.tmp 2) (.tmp 71) rfl (by rfl) w.heap.size noS noS rfl rfl M6.out ?_)
            intro W4 hb4 hm4
            have NB := Lib.hid (B6.out.trans (hb4.below (Nat.le_refl _)))
            have N4 := Lib.hid hm4
            clear hb4 hm4
            go_wp2_with fail
            refine bodyPost_ret (v := .tuple #[sval noS, .int .i64 60]) (by simp [results, Try.results15, Sem.run_bind, Sem.run_pure, asAddr, load_var N4.out]) rfl ⟨?_, NB.out⟩
            unfold decS decE
            rw [HN.out]
            rfl
          · refine (rencode_good s _ hr).mono ?_
            rintro e w6 ⟨v, rfl, hF⟩
            obtain ⟨g6, d6, rfl, hg6, hd6, hdm6, hM6, hb6⟩ := hF.open_ (spage_length s)
            have M6 := Lib.hid (M5.out.keep hb6)
            have S6 := Lib.hid (HS.out.keep hb6)
            have B6 := Lib.hid (B5.out.trans (hb6.mono B5.out.size))
            have c1 := conv8 _ _ d6 _ _ hM6.reads
            have c2 := conv8 _ _ c _ _ (HR.out.keep B6.out)
            have HRT := Lib.hid hr
            clear hF hM6 hb6 M5 B5 HS hr
            by_cases hq : spage s = p
            · rw [hq] at c1
              have HY : Hid (isSup p = true) := Lib.hid (by rw [HIS.out, HRT.out, decide_eq_true hq]; rfl)
              clear hq
              go_wp2_with (first | refine wl_load (.tmp 7) rfl (by rfl) w1.heap.size s rfl S6.out ?_ | refine wl_store (.tmp 2) (.tmp 72) rfl (by rfl) w.heap.size noS s rfl rfl M6.out ?_)
              intro W4 hb4 hm4
              have NB := Lib.hid (B6.out.trans (hb4.below (Nat.le_refl _)))
              have N4 := Lib.hid hm4
              clear hb4 hm4 c1 c2
              go_wp2_with fail
              refine bodyPost_ret (v := .tuple #[sval s, .int .i64 0]) (by simp [results, Try.results15, Sem.run_bind, Sem.run_pure, asAddr, load_var N4.out]) rfl ⟨?_, NB.out⟩
              unfold decS decE
              rw [HY.out, HSD.out]
              rfl
            · have HN : Hid (isSup p = false) := Lib.hid (by rw [HIS.out, decide_eq_false hq]; simp)
              have hne : (spage s == p) = false := by simpa using hq
              clear hq
              go_wp2_with (first | refine wl_build0 rfl (by rfl) ?_ | refine wl_store (.tmp 2) (.tmp 71) rfl (by rfl) w.heap.size noS noS rfl rfl M6.out ?_)
              intro W4 hb4 hm4
              have NB := Lib.hid (B6.out.trans (hb4.below (Nat.le_refl _)))
              have N4 := Lib.hid hm4
              clear hb4 hm4 c1 c2
              go_wp2_with fail
              refine bodyPost_ret (v := .tuple #[sval noS, .int .i64 60]) (by simp [results, Try.results15, Sem.run_bind, Sem.run_pure, asAddr, load_var N4.out]) rfl ⟨?_, NB.out⟩
              unfold decS decE
              rw [HN.out]
              rfl

end Go.Proofs.Ytfnoeligaapnbaa
