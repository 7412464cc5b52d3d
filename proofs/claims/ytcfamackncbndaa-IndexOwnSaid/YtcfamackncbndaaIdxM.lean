/-
  IndexOwn: the walk.
-/
import Derived.Test.YtcfamackncbndaaIdxJ
namespace Go.Proofs.Ytcfamackncbndaa
open Go.RowKit
set_option linter.unusedVariables false

/-- The first n cells of block g are there. -/
def SomeC (w : World) (g n : Nat) : Prop := ∀ j, j < n → ∃ v, w.cell? ⟨g, j, none⟩ = some v
theorem SomeC.set {w : World} {g n : Nat} (h : SomeC w g n) (k : Nat) (u : Value) : SomeC (w.setCell ⟨g, k, none⟩ u) g n := fun j hj => by
  obtain ⟨v, hv⟩ := h j hj
  by_cases e : k = j
  · subst e
    exact ⟨u, World.cell?_setCell_same' _ _ _ (by rw [hv]; rfl)⟩
  · exact ⟨v, (World.cell?_setCell_other w ⟨g, k, none⟩ ⟨g, j, none⟩ u (fun e2 => by injection e2 with _ e3; exact e e3)).trans hv⟩
theorem Mem8.someC {w : World} {g n : Nat} {l : List UInt8} (h : Mem8 w g 0 n l) : SomeC w g n := fun j hj => by
  have hl := h.len
  have := h.cell j (by omega)
  rw [Nat.zero_add] at this
  exact ⟨_, this⟩

/-- A slice of its own, all of it. -/
theorem own_all {w : World} {base n : Nat} {e : TypeId} {v : Value} {xs : List Value} (h : w.ownsRow base e 1 v n xs) (hv : v ≠ .slice none 0 0) :
    ∃ g c, v = .slice (some ⟨g, 0, none⟩) n c ∧ base ≤ g ∧ g < w.heap.size ∧ n ≤ c ∧ c ≤ maxLen ∧ SomeC w g c ∧ ∀ j, w.frozen? ⟨g, j, none⟩ = false := by
  rcases h.2 with ⟨rfl, _⟩ | ⟨g, cap, cur, rfl, hg, hh, hn, hm, hs, _⟩
  · exact absurd rfl hv
  · refine ⟨g, cap, rfl, hg, (Array.getElem?_eq_some_iff.1 hh).1, hn, hm, fun j hj => ?_, fun j => ?_⟩
    · refine ⟨cur[j]'(by omega), ?_⟩
      rw [cell_of_row w g j cur e (0, 0) hh]
      exact Array.getElem?_eq_getElem (by omega)
    · simp [World.frozen?, hh]

theorem ReadsW.below {w : World} {A : Option Addr} {n : Nat} {l : List UInt16} (h : ReadsW w A n l) : 0 < (wcells l).length → ∀ a, A = some a → a.block < w.heap.size := fun h0 a ha => by
  obtain ⟨b, o, e, hc⟩ := h.2 h0
  rw [ha] at e
  injection e with e
  subst e
  exact hc.lt

set_option maxHeartbeats 1000000 in
theorem own_long (A : Option Addr) (n c : Nat) (w : World) (hn1 : n ≤ maxLen) (h : 61 < n) :
    Calls Try.prog 8 #[.slice A n c] w fun e w' => e = .returned (.bool true) ∧ Below w.heap.size w w' := by
  unfold maxLen at hn1
  go_enter Try.func8, Try.ntmps8
  go_wp2_with (go_at_call 9; refine (awake_any _).mono ?_; rintro e w' ⟨rfl, hb⟩)
  go_ret
  exact ⟨rfl, hb⟩

set_option maxHeartbeats 2000000 in
set_option maxRecDepth 100000 in
theorem own_short (A : Option Addr) (n c : Nat) (l : List UInt16) (w : World) (h : ReadsW w A n l) (hn : n ≤ 61) :
    Calls Try.prog 8 #[.slice A n c] w fun e w' => e = .returned (.bool true) ∧ Below w.heap.size w w' := by
  have hl := Lib.hid h.1
  have HA := Lib.hid h.below
  have HL := Lib.hid h; clear h
  have hid := idx_of_page 4 l (by decide) (by have := hl.out; omega)
  have hpl := pageOf_length 4 (ibody l) (by rw [ibody_length]; have := hl.out; omega)
  have HI := Lib.hid hid; clear hid
  have HPL := Lib.hid hpl; clear hpl
  go_enter Try.func8, Try.ntmps8
  go_wp2_with fail
  refine (encode_right A n c 4 l _ HL.out (by decide) hn).mono ?_
  rintro e w1 ⟨v, rfl, hF⟩
  obtain ⟨g1, d1, rfl, hg1, hd1, hdm1, hM1, hB⟩ := hF.open_ HPL.out
  have B1 := Lib.hid hB
  have HL1 := Lib.hid (HL.out.keep hB)
  have P1 := Lib.hid hM1
  clear hF hB hM1 HL
  generalize pageOf 4 (ibody l) = p at *
  go_wp2_with fail
  refine (decode_own _ 128 d1 4 p _ P1.out.reads (by simp only [maxLen]; omega) hd1 HI.out.1).mono ?_
  rintro e w2 ⟨v, rfl, N, hN, hown, hne, hb⟩
  rw [HI.out.2, hl.out] at hown
  obtain ⟨g2, c2, rfl, hg2, hg2s, hnc2, hcm2, hs2, hf2⟩ := own_all hown hne
  have h12 : g1 < g2 := by have := P1.out.lt; omega
  have hgw2 : w.heap.size ≤ g2 := by have := B1.out.size; omega
  have B2 := Lib.hid (B1.out.trans (hb.mono B1.out.size))
  have HL2 := Lib.hid (HL1.out.keep hb)
  have P2 := Lib.hid (P1.out.keep hb)
  have S2 := Lib.hid hs2
  have F2 := Lib.hid hf2
  clear hb hown hne hs2 hf2 B1 HL1 P1
  go_wp2_with fail
  refine (decode_own _ 128 d1 4 p _ P2.out.reads (by simp only [maxLen]; omega) hd1 HI.out.1).mono ?_
  rintro e w3 ⟨v, rfl, N3, hN3, hown, hne, hb⟩
  rw [HI.out.2, hl.out] at hown
  have hMc := own_all hown hne
  obtain ⟨g3, c3, rfl, hg3, hg3s, hnc3, hcm3, _, _⟩ := hMc
  have R3 : Hid (ReadsW w3 (some ⟨g3, 0, none⟩) n l) := Lib.hid ⟨hl.out, (MemC.of_ownC hown).1.cells⟩
  have h23 : g2 < g3 := by omega
  have B3 := Lib.hid (B2.out.trans (hb.mono B2.out.size))
  have HL3 := Lib.hid (HL2.out.keep hb)
  have P3 := Lib.hid (P2.out.keep hb)
  have S3 : Hid (SomeC w3 g2 c2) := Lib.hid fun j hj => by
    obtain ⟨x, hx⟩ := S2.out j hj
    exact ⟨x, (hb.cell (p := ⟨g2, j, none⟩) hg2s).trans hx⟩
  have F3 : Hid (∀ j, w3.frozen? ⟨g2, j, none⟩ = false) := Lib.hid fun j => (hb.frozen (p := ⟨g2, j, none⟩) hg2s).trans (F2.out j)
  clear hb hown hne B2 HL2 P2 S2 F2
  have hcm : (c2 : Int) ≤ 9223372036854775807 := by unfold maxLen at hcm2; omega
  by_cases hc0 : c2 = 0
  · subst hc0
    go_wp2_with fail
    go_loopw [36] (fun i wr => i = .int .i64 0 ∧ wr = w3) (fun _ _ => 0)
    case atStart => exact ⟨rfl, rfl⟩
    case round =>
      obtain ⟨rfl, rfl⟩ := hrel
      have HW : Hid (Wrote wr wr g2 0 0) := Lib.hid (Wrote.refl _ _ _ _)
      have P4 := Lib.hid (HW.out.far P3.out (.inl (by omega)))
      have R4 : Hid (ReadsW wr (some ⟨g3, 0, none⟩) n l) := Lib.hid ⟨R3.out.1, HW.out.farCs R3.out.2 (fun _ a ha => by injection ha with ha; subst ha; show g3 ≠ g2; omega)⟩
      have HL4 : Hid (ReadsW wr A n l) := Lib.hid ⟨HL3.out.1, HW.out.farCs HL3.out.2 (fun h0 a ha => by have := HA.out h0 a ha; omega)⟩
      have B4 := Lib.hid (B3.out.trans (HW.out.below hgw2))
      clear HW
      generalize wr = w4 at *
      go_wp2_with fail
      go_loopw [45] (fun i wr => ∃ j : Nat, j ≤ 128 ∧ i = .int .i64 j ∧ Wrote w4 wr g1 0 128 ∧ SomeC wr g1 128) (fun i _ => 128 - (intOf i).toNat)
      case atStart => exact ⟨0, Nat.zero_le _, rfl, Wrote.refl _ _ _ _, P4.out.someC⟩
      case round =>
        obtain ⟨j, hj, rfl, hwr, hso⟩ := hrel
        have HW := Lib.hid hwr; clear hwr
        have HS := Lib.hid hso; clear hso
        by_cases hltj : j < 128
        · obtain ⟨x, cx⟩ := HS.out j hltj
          have fx : wr.frozen? ⟨g1, j, none⟩ = false := by
            rw [HW.out.frz]; have := P4.out.free j (by rw [P4.out.len]; exact hltj); simpa using this
          go_wp2
          go_roundw
          case rel => exact ⟨j + 1, by omega, by go_num, HW.out.trans ((Wrote.set _ _ _ _).mono (Nat.zero_le _) (by omega)), HS.out.set j _⟩
          case measure => simp [intOf]; omega
        · have R5 : Hid (ReadsW wr (some ⟨g3, 0, none⟩) n l) := Lib.hid ⟨R4.out.1, HW.out.farCs R4.out.2 (fun _ a ha => by injection ha with ha; subst ha; show g3 ≠ g1; omega)⟩
          have HL5 : Hid (ReadsW wr A n l) := Lib.hid ⟨HL4.out.1, HW.out.farCs HL4.out.2 (fun h0 a ha => by have := HA.out h0 a ha; omega)⟩
          have B5 := Lib.hid (B4.out.trans (HW.out.below hg1))
          clear HW HS P4 R4 HL4 B4
          go_wp2_with fail
          refine (eqwords_any _ _ n n c3 c _ _ _ R5.out HL5.out (by simp only [maxLen]; omega) (by simp only [maxLen]; omega)).mono ?_
          rintro e w6 ⟨rfl, hq⟩
          rw [show sameW l l = true from sameW_iff.2 rfl]
          have hb := hq.below
          have B6 := Lib.hid (B5.out.trans (hb.mono B5.out.size))
          clear hb hq B5 R5 HL5
          go_wp2_with fail
          refine (awake_any _).mono ?_
          rintro e w' ⟨rfl, hb⟩
          have B7 := Lib.hid (B6.out.trans (hb.mono B6.out.size)); clear hb
          go_wp2_with fail
          go_ret
          exact ⟨rfl, B7.out⟩
  · have hc0i : (0 : Int) ≤ (c2 : Int) := by omega
    go_wp2_with fail
    go_loopw [36] (fun i wr => ∃ k : Nat, k ≤ c2 ∧ i = .int .i64 k ∧ Wrote w3 wr g2 0 c2 ∧ SomeC wr g2 c2) (fun i _ => c2 - (intOf i).toNat)
    case atStart => exact ⟨0, Nat.zero_le _, rfl, Wrote.refl _ _ _ _, S3.out⟩
    case round =>
      obtain ⟨k, hk, rfl, hwr, hso⟩ := hrel
      have HW := Lib.hid hwr; clear hwr
      have HS := Lib.hid hso; clear hso
      by_cases hlt : k < c2
      · obtain ⟨x, cx⟩ := HS.out k hlt
        have fx : wr.frozen? ⟨g2, k, none⟩ = false := by rw [HW.out.frz]; exact F3.out k
        have hki : (k : Int) < (c2 : Int) := by omega
        go_wp2
        go_roundw
        case rel => exact ⟨k + 1, by omega, by go_num, HW.out.trans ((Wrote.set _ _ _ _).mono (Nat.zero_le _) (by omega)), HS.out.set k _⟩
        case measure => simp [intOf]; omega
      · have hkc : ¬ (k : Int) < (c2 : Int) := by omega
        have P4 := Lib.hid (HW.out.far P3.out (.inl (by omega)))
        have R4 : Hid (ReadsW wr (some ⟨g3, 0, none⟩) n l) := Lib.hid ⟨R3.out.1, HW.out.farCs R3.out.2 (fun _ a ha => by injection ha with ha; subst ha; show g3 ≠ g2; omega)⟩
        have HL4 : Hid (ReadsW wr A n l) := Lib.hid ⟨HL3.out.1, HW.out.farCs HL3.out.2 (fun h0 a ha => by have := HA.out h0 a ha; omega)⟩
        have B4 := Lib.hid (B3.out.trans (HW.out.below hgw2))
        clear HW
        generalize wr = w4 at *
        go_wp2_with fail
        go_loopw [45] (fun i wr => ∃ j : Nat, j ≤ 128 ∧ i = .int .i64 j ∧ Wrote w4 wr g1 0 128 ∧ SomeC wr g1 128) (fun i _ => 128 - (intOf i).toNat)
        case atStart => exact ⟨0, Nat.zero_le _, rfl, Wrote.refl _ _ _ _, P4.out.someC⟩
        case round =>
          obtain ⟨j, hj, rfl, hwr, hso⟩ := hrel
          have HW := Lib.hid hwr; clear hwr
          have HS := Lib.hid hso; clear hso
          by_cases hltj : j < 128
          · obtain ⟨x, cx⟩ := HS.out j hltj
            have fx : wr.frozen? ⟨g1, j, none⟩ = false := by
              rw [HW.out.frz]; have := P4.out.free j (by rw [P4.out.len]; exact hltj); simpa using this
            go_wp2
            go_roundw
            case rel => exact ⟨j + 1, by omega, by go_num, HW.out.trans ((Wrote.set _ _ _ _).mono (Nat.zero_le _) (by omega)), HS.out.set j _⟩
            case measure => simp [intOf]; omega
          · have R5 : Hid (ReadsW wr (some ⟨g3, 0, none⟩) n l) := Lib.hid ⟨R4.out.1, HW.out.farCs R4.out.2 (fun _ a ha => by injection ha with ha; subst ha; show g3 ≠ g1; omega)⟩
            have HL5 : Hid (ReadsW wr A n l) := Lib.hid ⟨HL4.out.1, HW.out.farCs HL4.out.2 (fun h0 a ha => by have := HA.out h0 a ha; omega)⟩
            have B5 := Lib.hid (B4.out.trans (HW.out.below hg1))
            clear HW HS P4 R4 HL4 B4
            go_wp2_with fail
            refine (eqwords_any _ _ n n c3 c _ _ _ R5.out HL5.out (by simp only [maxLen]; omega) (by simp only [maxLen]; omega)).mono ?_
            rintro e w6 ⟨rfl, hq⟩
            rw [show sameW l l = true from sameW_iff.2 rfl]
            have hb := hq.below
            have B6 := Lib.hid (B5.out.trans (hb.mono B5.out.size))
            clear hb hq B5 R5 HL5
            go_wp2_with fail
            refine (awake_any _).mono ?_
            rintro e w' ⟨rfl, hb⟩
            have B7 := Lib.hid (B6.out.trans (hb.mono B6.out.size)); clear hb
            go_wp2_with fail
            go_ret
            exact ⟨rfl, B7.out⟩

theorem lawOwn (A : Option Addr) (n c : Nat) (l : List UInt16) (w : World) (h : ReadsW w A n l) (hnc : n ≤ c) (hcm : c ≤ maxLen) :
    Calls Try.prog 8 #[.slice A n c] w fun e w' => e = .returned (.bool true) ∧ Below w.heap.size w w' := by
  rcases Nat.lt_or_ge 61 n with hn | hn
  · exact own_long A n c w (Nat.le_trans hnc hcm) hn
  · exact own_short A n c l w h hn

end Go.Proofs.Ytcfamackncbndaa
