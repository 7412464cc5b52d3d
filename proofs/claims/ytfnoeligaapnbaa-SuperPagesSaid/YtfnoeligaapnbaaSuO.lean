/-
  catchmentref06.Pick.
-/
import Derived.Test.YtfnoeligaapnbaaSuN
namespace Go.Proofs.Ytfnoeligaapnbaa
open Go.RowKit
set_option linter.unusedVariables false
set_option linter.unusedSimpArgs false
attribute [local go_sem ↓] Go.wp_at_zero Go.wp_at_succ

theorem best1_yes {p : List UInt8} (h : isSup p = true) (h0 : (supOf (bodyOf p)).gen.toNat % 2 = 0) : best1 p = supOf (bodyOf p) := upd_yes h h0 (isSup_gen h)
theorem best1_odd {p : List UInt8} (h0 : (supOf (bodyOf p)).gen.toNat % 2 = 1) : best1 p = noS := upd_slot (by unfold slotS; omega)
theorem best1_no {p : List UInt8} (h : isSup p = false) : best1 p = noS := upd_no h
theorem best2_q {p q : List UInt8} (h : isSup q = true) (h0 : (supOf (bodyOf q)).gen.toNat % 2 = 1) (h1 : (best1 p).gen.toNat < (supOf (bodyOf q)).gen.toNat) : best2 p q = supOf (bodyOf q) := upd_yes h h0 h1
theorem best2_p {p q : List UInt8} (h : isSup q = false ∨ (supOf (bodyOf q)).gen.toNat % 2 = 0 ∨ ¬ (best1 p).gen.toNat < (supOf (bodyOf q)).gen.toNat) : best2 p q = best1 p := by
  rcases h with h | h | h
  · exact upd_no h
  · exact upd_slot (by unfold slotS; omega)
  · exact upd_less h
def pickV (p q : List UInt8) : Value := .tuple #[sval (best2 p q), .int .i64 (slotS (best2 p q).gen.toNat : Int), .int .i64 (pickE p q)]
theorem pickV_q {p q : List UInt8} (h : isSup q = true) (h0 : (supOf (bodyOf q)).gen.toNat % 2 = 1) (h1 : (best1 p).gen.toNat < (supOf (bodyOf q)).gen.toNat) : pickV p q = .tuple #[sval (supOf (bodyOf q)), .int .i64 1, .int .i64 0] := by
  have hg := isSup_gen h
  unfold pickV pickE slotS
  rw [best2_q h h0 h1, h0, if_neg (by omega)]
  rfl
theorem pickV_p {p q : List UInt8} (h : isSup p = true) (h0 : (supOf (bodyOf p)).gen.toNat % 2 = 0) (h1 : isSup q = false ∨ (supOf (bodyOf q)).gen.toNat % 2 = 0 ∨ ¬ (supOf (bodyOf p)).gen.toNat < (supOf (bodyOf q)).gen.toNat) : pickV p q = .tuple #[sval (supOf (bodyOf p)), .int .i64 0, .int .i64 0] := by
  have hg := isSup_gen h
  have e := best1_yes h h0
  rw [← e] at h1
  unfold pickV pickE slotS
  rw [best2_p h1, e, h0, if_neg (by omega)]
  rfl
theorem pickV_n {p q : List UInt8} (h : isSup p = false ∨ (supOf (bodyOf p)).gen.toNat % 2 = 1) (h1 : isSup q = false ∨ (supOf (bodyOf q)).gen.toNat % 2 = 0) : pickV p q = .tuple #[sval noS, .int .i64 0, .int .i64 60] := by
  have e : best1 p = noS := by
    rcases h with h | h
    · exact best1_no h
    · exact best1_odd h
  unfold pickV pickE slotS
  rw [best2_p (h1.imp id .inl), e]
  rfl

set_option maxRecDepth 100000 in
set_option maxHeartbeats 8000000 in
theorem rpick_any (A1 A2 : Option Addr) (n1 c1 n2 c2 : Nat) (p1 p2 : List UInt8) (w : World) (h1 : Reads8 w A1 n1 p1) (h2 : Reads8 w A2 n2 p2) (hn1 : n1 ≤ maxLen) (hc1 : n1 ≤ c1) (hn2 : n2 ≤ maxLen) (hc2 : n2 ≤ c2) :
    Calls Try.prog 17 #[.slice A1 n1 c1, .slice A2 n2 c2] w fun e w' => e = .returned (pickV p1 p2) ∧ Below w.heap.size w w' := by
  have HR1 := Lib.hid h1; clear h1
  have HR2 := Lib.hid h2; clear h2
  go_enter Try.func17, Try.ntmps17
  go_wp2_with (refine wl_alloc rfl (by rfl) ?_)
  intro W0 hb0 hm0 hs0
  have B0 := Lib.hid hb0
  have M0 := Lib.hid hm0
  clear hb0 hm0 hs0
  go_wp2_with fail
  refine (rdecode_any A1 n1 c1 p1 _ (HR1.out.keep B0.out) hn1 hc1).mono ?_
  rintro e w1 ⟨rfl, hb⟩
  have B1 := Lib.hid (B0.out.trans (hb.mono B0.out.size))
  have M1 := Lib.hid (M0.out.keep hb)
  clear hb B0 M0
  go_wp2_with (refine wl_new 7 (.tmp 16) rfl rfl rfl (by rfl) (decS p1) rfl rfl (by rfl) ?_)
  intro W2 hb2 hm2 hs2
  have B2 := Lib.hid (B1.out.trans (hb2.mono B1.out.size))
  have M2 := Lib.hid (M1.out.keep hb2)
  have P2 := Lib.hid hm2
  clear hb2 hm2 hs2 B1 M1
  go_wp2_with fail
  refine (rdecode_any A2 n2 c2 p2 _ (HR2.out.keep B2.out) hn2 hc2).mono ?_
  rintro e w3 ⟨rfl, hb⟩
  have B3 := Lib.hid (B2.out.trans (hb.mono B2.out.size))
  have M3 := Lib.hid (M2.out.keep hb)
  have P3 := Lib.hid (P2.out.keep hb)
  clear hb B2 M2 P2
  go_wp2_with (refine wl_new 9 (.tmp 21) rfl rfl rfl (by rfl) (decS p2) rfl rfl (by rfl) ?_)
  intro W4 hb4 hm4 hs4
  have B4 := Lib.hid (B3.out.trans (hb4.mono B3.out.size))
  have M4 := Lib.hid (M3.out.keep hb4)
  have P4 := Lib.hid (P3.out.keep hb4)
  have Q4 := Lib.hid hm4
  clear hb4 hm4 hs4 B3 M3 P3
  obtain ⟨a0, _⟩ := P4.out.gets 0 _ (scells_gen _)
  obtain ⟨b0, _⟩ := Q4.out.gets 0 _ (scells_gen _)
  have K1 : isSup p1 = false ∨ (isSup p1 = true ∧ (supOf (bodyOf p1)).gen.toNat % 2 = 1) ∨ (isSup p1 = true ∧ (supOf (bodyOf p1)).gen.toNat % 2 = 0) := by
    cases isSup p1
    · exact .inl rfl
    · exact .inr (by rcases Nat.mod_two_eq_zero_or_one (supOf (bodyOf p1)).gen.toNat with h | h <;> simp [h])
  have K2 : isSup p2 = false ∨ (isSup p2 = true ∧ (supOf (bodyOf p2)).gen.toNat % 2 = 0) ∨ (isSup p2 = true ∧ (supOf (bodyOf p2)).gen.toNat % 2 = 1) := by
    cases isSup p2
    · exact .inl rfl
    · exact .inr (by rcases Nat.mod_two_eq_zero_or_one (supOf (bodyOf p2)).gen.toNat with h | h <;> simp [h])
  rcases K1 with g | g | g
  · have H1 := Lib.hid g; clear g
    have E1 : Hid (decE p1 = 60) := Lib.hid (by unfold decE; rw [H1.out]; rfl)
    clear a0
    rcases K2 with g | g | g
    · have H2 := Lib.hid g; clear g
      have E2 : Hid (decE p2 = 60) := Lib.hid (by unfold decE; rw [H2.out]; rfl)
      clear b0
      have HV : Hid (pickV p1 p2 = .tuple #[sval noS, .int .i64 0, .int .i64 60]) := Lib.hid (pickV_n (.inl H1.out) (.inl H2.out))
      rw [E1.out, E2.out]
      go_wp2_with (first | refine wl_build0 rfl (by rfl) ?_ | refine wl_store (.tmp 4) (.tmp 54) rfl (by rfl) w.heap.size noS noS rfl rfl M4.out ?_)
      intro W5 hb5 hm5
      have NB := Lib.hid (B4.out.trans (hb5.below (Nat.le_refl _)))
      have N5 := Lib.hid hm5
      clear hb5 hm5
      go_wp2_with fail
      refine bodyPost_ret (v := .tuple #[sval noS, .int .i64 0, .int .i64 60]) (by simp [results, Try.results17, Sem.run_bind, Sem.run_pure, asAddr, load_var N5.out]) rfl ⟨?_, NB.out⟩
      rw [HV.out]
    · have H2 := Lib.hid g; clear g
      have E2 : Hid (decE p2 = 0) := Lib.hid (by unfold decE; rw [H2.out.1]; rfl)
      have D2 : Hid (decS p2 = supOf (bodyOf p2)) := Lib.hid (by unfold decS; rw [H2.out.1]; rfl)
      rw [D2.out] at b0
      have m2 : ((supOf (bodyOf p2)).gen.toNat : Int) % 2 = 0 := by have := H2.out.2; omega
      have HV : Hid (pickV p1 p2 = .tuple #[sval noS, .int .i64 0, .int .i64 60]) := Lib.hid (pickV_n (.inl H1.out) (.inr H2.out.2))
      rw [E1.out, E2.out]
      go_wp2_with (first | refine wl_build0 rfl (by rfl) ?_ | refine wl_store (.tmp 4) (.tmp 54) rfl (by rfl) w.heap.size noS noS rfl rfl M4.out ?_)
      intro W5 hb5 hm5
      have NB := Lib.hid (B4.out.trans (hb5.below (Nat.le_refl _)))
      have N5 := Lib.hid hm5
      clear hb5 hm5
      go_wp2_with fail
      refine bodyPost_ret (v := .tuple #[sval noS, .int .i64 0, .int .i64 60]) (by simp [results, Try.results17, Sem.run_bind, Sem.run_pure, asAddr, load_var N5.out]) rfl ⟨?_, NB.out⟩
      rw [HV.out]
    · have H2 := Lib.hid g; clear g
      have E2 : Hid (decE p2 = 0) := Lib.hid (by unfold decE; rw [H2.out.1]; rfl)
      have D2 : Hid (decS p2 = supOf (bodyOf p2)) := Lib.hid (by unfold decS; rw [H2.out.1]; rfl)
      rw [D2.out] at b0
      have m2 : ((supOf (bodyOf p2)).gen.toNat : Int) % 2 = 1 := by have := H2.out.2; omega
      have HV : Hid (pickV p1 p2 = .tuple #[sval (supOf (bodyOf p2)), .int .i64 1, .int .i64 0]) := Lib.hid (pickV_q H2.out.1 H2.out.2 (by rw [best1_no H1.out]; exact isSup_gen H2.out.1))
      rw [E1.out, E2.out]
      go_wp2_with (first | refine wl_load (.tmp 9) rfl (by rfl) w3.heap.size (decS p2) rfl Q4.out ?_ | refine wl_store (.tmp 4) (.tmp 51) rfl (by rfl) w.heap.size noS (decS p2) rfl rfl M4.out ?_)
      intro W5 hb5 hm5
      have NB := Lib.hid (B4.out.trans (hb5.below (Nat.le_refl _)))
      have N5 := Lib.hid hm5
      clear hb5 hm5
      go_wp2_with fail
      refine bodyPost_ret (v := .tuple #[sval (decS p2), .int .i64 1, .int .i64 0]) (by simp [results, Try.results17, Sem.run_bind, Sem.run_pure, asAddr, load_var N5.out]) rfl ⟨?_, NB.out⟩
      rw [HV.out, D2.out]
  · have H1 := Lib.hid g; clear g
    have E1 : Hid (decE p1 = 0) := Lib.hid (by unfold decE; rw [H1.out.1]; rfl)
    have D1 : Hid (decS p1 = supOf (bodyOf p1)) := Lib.hid (by unfold decS; rw [H1.out.1]; rfl)
    rw [D1.out] at a0
    have m1 : ((supOf (bodyOf p1)).gen.toNat : Int) % 2 = 1 := by have := H1.out.2; omega
    rcases K2 with g | g | g
    · have H2 := Lib.hid g; clear g
      have E2 : Hid (decE p2 = 60) := Lib.hid (by unfold decE; rw [H2.out]; rfl)
      clear b0
      have HV : Hid (pickV p1 p2 = .tuple #[sval noS, .int .i64 0, .int .i64 60]) := Lib.hid (pickV_n (.inr H1.out.2) (.inl H2.out))
      rw [E1.out, E2.out]
      go_wp2_with (first | refine wl_build0 rfl (by rfl) ?_ | refine wl_store (.tmp 4) (.tmp 54) rfl (by rfl) w.heap.size noS noS rfl rfl M4.out ?_)
      intro W5 hb5 hm5
      have NB := Lib.hid (B4.out.trans (hb5.below (Nat.le_refl _)))
      have N5 := Lib.hid hm5
      clear hb5 hm5
      go_wp2_with fail
      refine bodyPost_ret (v := .tuple #[sval noS, .int .i64 0, .int .i64 60]) (by simp [results, Try.results17, Sem.run_bind, Sem.run_pure, asAddr, load_var N5.out]) rfl ⟨?_, NB.out⟩
      rw [HV.out]
    · have H2 := Lib.hid g; clear g
      have E2 : Hid (decE p2 = 0) := Lib.hid (by unfold decE; rw [H2.out.1]; rfl)
      have D2 : Hid (decS p2 = supOf (bodyOf p2)) := Lib.hid (by unfold decS; rw [H2.out.1]; rfl)
      rw [D2.out] at b0
      have m2 : ((supOf (bodyOf p2)).gen.toNat : Int) % 2 = 0 := by have := H2.out.2; omega
      have HV : Hid (pickV p1 p2 = .tuple #[sval noS, .int .i64 0, .int .i64 60]) := Lib.hid (pickV_n (.inr H1.out.2) (.inr H2.out.2))
      rw [E1.out, E2.out]
      go_wp2_with (first | refine wl_build0 rfl (by rfl) ?_ | refine wl_store (.tmp 4) (.tmp 54) rfl (by rfl) w.heap.size noS noS rfl rfl M4.out ?_)
      intro W5 hb5 hm5
      have NB := Lib.hid (B4.out.trans (hb5.below (Nat.le_refl _)))
      have N5 := Lib.hid hm5
      clear hb5 hm5
      go_wp2_with fail
      refine bodyPost_ret (v := .tuple #[sval noS, .int .i64 0, .int .i64 60]) (by simp [results, Try.results17, Sem.run_bind, Sem.run_pure, asAddr, load_var N5.out]) rfl ⟨?_, NB.out⟩
      rw [HV.out]
    · have H2 := Lib.hid g; clear g
      have E2 : Hid (decE p2 = 0) := Lib.hid (by unfold decE; rw [H2.out.1]; rfl)
      have D2 : Hid (decS p2 = supOf (bodyOf p2)) := Lib.hid (by unfold decS; rw [H2.out.1]; rfl)
      rw [D2.out] at b0
      have m2 : ((supOf (bodyOf p2)).gen.toNat : Int) % 2 = 1 := by have := H2.out.2; omega
      have HV : Hid (pickV p1 p2 = .tuple #[sval (supOf (bodyOf p2)), .int .i64 1, .int .i64 0]) := Lib.hid (pickV_q H2.out.1 H2.out.2 (by rw [best1_odd H1.out.2]; exact isSup_gen H2.out.1))
      rw [E1.out, E2.out]
      go_wp2_with (first | refine wl_load (.tmp 9) rfl (by rfl) w3.heap.size (decS p2) rfl Q4.out ?_ | refine wl_store (.tmp 4) (.tmp 51) rfl (by rfl) w.heap.size noS (decS p2) rfl rfl M4.out ?_)
      intro W5 hb5 hm5
      have NB := Lib.hid (B4.out.trans (hb5.below (Nat.le_refl _)))
      have N5 := Lib.hid hm5
      clear hb5 hm5
      go_wp2_with fail
      refine bodyPost_ret (v := .tuple #[sval (decS p2), .int .i64 1, .int .i64 0]) (by simp [results, Try.results17, Sem.run_bind, Sem.run_pure, asAddr, load_var N5.out]) rfl ⟨?_, NB.out⟩
      rw [HV.out, D2.out]
  · have H1 := Lib.hid g; clear g
    have E1 : Hid (decE p1 = 0) := Lib.hid (by unfold decE; rw [H1.out.1]; rfl)
    have D1 : Hid (decS p1 = supOf (bodyOf p1)) := Lib.hid (by unfold decS; rw [H1.out.1]; rfl)
    rw [D1.out] at a0
    have m1 : ((supOf (bodyOf p1)).gen.toNat : Int) % 2 = 0 := by have := H1.out.2; omega
    rcases K2 with g | g | g
    · have H2 := Lib.hid g; clear g
      have E2 : Hid (decE p2 = 60) := Lib.hid (by unfold decE; rw [H2.out]; rfl)
      clear b0
      have HV : Hid (pickV p1 p2 = .tuple #[sval (supOf (bodyOf p1)), .int .i64 0, .int .i64 0]) := Lib.hid (pickV_p H1.out.1 H1.out.2 (.inl H2.out))
      rw [E1.out, E2.out]
      go_wp2_with (first | refine wl_load (.tmp 7) rfl (by rfl) w1.heap.size (decS p1) rfl P4.out ?_ | refine wl_store (.tmp 4) (.tmp 53) rfl (by rfl) w.heap.size noS (decS p1) rfl rfl M4.out ?_)
      intro W5 hb5 hm5
      have NB := Lib.hid (B4.out.trans (hb5.below (Nat.le_refl _)))
      have N5 := Lib.hid hm5
      clear hb5 hm5
      go_wp2_with fail
      refine bodyPost_ret (v := .tuple #[sval (decS p1), .int .i64 0, .int .i64 0]) (by simp [results, Try.results17, Sem.run_bind, Sem.run_pure, asAddr, load_var N5.out]) rfl ⟨?_, NB.out⟩
      rw [HV.out, D1.out]
    · have H2 := Lib.hid g; clear g
      have E2 : Hid (decE p2 = 0) := Lib.hid (by unfold decE; rw [H2.out.1]; rfl)
      have D2 : Hid (decS p2 = supOf (bodyOf p2)) := Lib.hid (by unfold decS; rw [H2.out.1]; rfl)
      rw [D2.out] at b0
      have m2 : ((supOf (bodyOf p2)).gen.toNat : Int) % 2 = 0 := by have := H2.out.2; omega
      have HV : Hid (pickV p1 p2 = .tuple #[sval (supOf (bodyOf p1)), .int .i64 0, .int .i64 0]) := Lib.hid (pickV_p H1.out.1 H1.out.2 (.inr (.inl H2.out.2)))
      rw [E1.out, E2.out]
      go_wp2_with (first | refine wl_load (.tmp 7) rfl (by rfl) w1.heap.size (decS p1) rfl P4.out ?_ | refine wl_store (.tmp 4) (.tmp 53) rfl (by rfl) w.heap.size noS (decS p1) rfl rfl M4.out ?_)
      intro W5 hb5 hm5
      have NB := Lib.hid (B4.out.trans (hb5.below (Nat.le_refl _)))
      have N5 := Lib.hid hm5
      clear hb5 hm5
      go_wp2_with fail
      refine bodyPost_ret (v := .tuple #[sval (decS p1), .int .i64 0, .int .i64 0]) (by simp [results, Try.results17, Sem.run_bind, Sem.run_pure, asAddr, load_var N5.out]) rfl ⟨?_, NB.out⟩
      rw [HV.out, D1.out]
    · have H2 := Lib.hid g; clear g
      have E2 : Hid (decE p2 = 0) := Lib.hid (by unfold decE; rw [H2.out.1]; rfl)
      have D2 : Hid (decS p2 = supOf (bodyOf p2)) := Lib.hid (by unfold decS; rw [H2.out.1]; rfl)
      rw [D2.out] at b0
      have m2 : ((supOf (bodyOf p2)).gen.toNat : Int) % 2 = 1 := by have := H2.out.2; omega
      by_cases hlt : (supOf (bodyOf p1)).gen.toNat < (supOf (bodyOf p2)).gen.toNat
      · have HLT := Lib.hid hlt
        have hgt : ¬ ((supOf (bodyOf p2)).gen.toNat : Int) < ((supOf (bodyOf p1)).gen.toNat : Int) := by omega
        clear hlt
        have HV : Hid (pickV p1 p2 = .tuple #[sval (supOf (bodyOf p2)), .int .i64 1, .int .i64 0]) := Lib.hid (pickV_q H2.out.1 H2.out.2 (by rw [best1_yes H1.out.1 H1.out.2]; exact HLT.out))
        rw [E1.out, E2.out]
        go_wp2_with (first | refine wl_load (.tmp 9) rfl (by rfl) w3.heap.size (decS p2) rfl Q4.out ?_ | refine wl_store (.tmp 4) (.tmp 51) rfl (by rfl) w.heap.size noS (decS p2) rfl rfl M4.out ?_)
        intro W5 hb5 hm5
        have NB := Lib.hid (B4.out.trans (hb5.below (Nat.le_refl _)))
        have N5 := Lib.hid hm5
        clear hb5 hm5
        go_wp2_with fail
        refine bodyPost_ret (v := .tuple #[sval (decS p2), .int .i64 1, .int .i64 0]) (by simp [results, Try.results17, Sem.run_bind, Sem.run_pure, asAddr, load_var N5.out]) rfl ⟨?_, NB.out⟩
        rw [HV.out, D2.out]
      · have HLT := Lib.hid hlt
        have hgt : ((supOf (bodyOf p2)).gen.toNat : Int) < ((supOf (bodyOf p1)).gen.toNat : Int) := by have := H1.out.2; have := H2.out.2; omega
        clear hlt
        have HV : Hid (pickV p1 p2 = .tuple #[sval (supOf (bodyOf p1)), .int .i64 0, .int .i64 0]) := Lib.hid (pickV_p H1.out.1 H1.out.2 (.inr (.inr HLT.out)))
        rw [E1.out, E2.out]
        go_wp2_with (first | refine wl_load (.tmp 7) rfl (by rfl) w1.heap.size (decS p1) rfl P4.out ?_ | refine wl_store (.tmp 4) (.tmp 53) rfl (by rfl) w.heap.size noS (decS p1) rfl rfl M4.out ?_)
        intro W5 hb5 hm5
        have NB := Lib.hid (B4.out.trans (hb5.below (Nat.le_refl _)))
        have N5 := Lib.hid hm5
        clear hb5 hm5
        go_wp2_with fail
        refine bodyPost_ret (v := .tuple #[sval (decS p1), .int .i64 0, .int .i64 0]) (by simp [results, Try.results17, Sem.run_bind, Sem.run_pure, asAddr, load_var N5.out]) rfl ⟨?_, NB.out⟩
        rw [HV.out, D1.out]

end Go.Proofs.Ytfnoeligaapnbaa
