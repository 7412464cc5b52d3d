/-
  IndexPages: the walk.
-/
import Derived.Test.YtcfamackncbndaaIdxJ
namespace Go.Proofs.Ytcfamackncbndaa
open Go.RowKit
set_option linter.unusedVariables false

set_option maxHeartbeats 2000000 in
set_option maxRecDepth 100000 in
theorem ipages_short (A : Option Addr) (n c : Nat) (kind as_ : UInt8) (body : List UInt8) (w : World) (h : Reads8 w A n body) (hnc : n ≤ c) (hcm : c ≤ maxLen) (hn : n ≤ 123) :
    Calls Try.prog 5 #[.int .u8 (kind.toNat : Int), .int .u8 (as_.toNat : Int), .slice A n c] w fun e w' => e = .returned (.bool true) ∧ Below w.heap.size w w' := by
  have hl := Lib.hid h.1
  have HR := Lib.hid h; clear h
  have hpl := pageOf_length kind body (by have := hl.out; omega)
  have HPL := Lib.hid hpl; clear hpl
  have i0 : ∀ w, (Instr.index 41 (.agg #[.int .u8 (as_.toNat : Int), .int .u8 4, .int .u8 5]) (.int .i64 0)).run Try.prog w = .ok (.int .u8 (as_.toNat : Int)) w := fun _ => by kernel_rfl
  have i1 : ∀ w, (Instr.index 41 (.agg #[.int .u8 (as_.toNat : Int), .int .u8 4, .int .u8 5]) (.int .i64 1)).run Try.prog w = .ok (.int .u8 4) w := fun _ => by kernel_rfl
  have i2 : ∀ w, (Instr.index 41 (.agg #[.int .u8 (as_.toNat : Int), .int .u8 4, .int .u8 5]) (.int .i64 2)).run Try.prog w = .ok (.int .u8 5) w := fun _ => by kernel_rfl
  go_enter Try.func5, Try.ntmps5
  go_wp2_with fail
  refine (seal_any A n c kind body _ HR.out hn).mono ?_
  rintro e w1 ⟨v, rfl, hF⟩
  obtain ⟨g, d, rfl, hg, hd, hdm, hM, hB⟩ := hF.open_ HPL.out
  have B1 := Lib.hid hB
  have P1 := Lib.hid hM.reads
  have HR1 := Lib.hid (HR.out.keep hB)
  clear hM hB hF HR
  generalize pageOf kind body = p at *
  go_wp2_with fail
  obtain ⟨w2, hw2⟩ : ∃ x, x = w1.alloc (.cells #[.slice (some ⟨g, 0, none⟩) 128 d, .slice A n c] 23) := ⟨_, rfl⟩
  have hb2 : Below w1.heap.size w1 w2 := by rw [hw2]; exact (Below.refl _ _).alloc (Nat.le_refl _) _
  have k0 : w2.cell? ⟨w1.heap.size, 0, none⟩ = some (.slice (some ⟨g, 0, none⟩) 128 d) := by rw [hw2]; simp
  have k1 : w2.cell? ⟨w1.heap.size, 1, none⟩ = some (.slice A n c) := by rw [hw2]; simp
  have ks : w1.heap.size < w2.heap.size := by rw [hw2]; simp
  have B2 := Lib.hid (B1.out.trans (hb2.mono B1.out.size))
  have P2 := Lib.hid (P1.out.keep hb2)
  have HR2 := Lib.hid (HR1.out.keep hb2)
  rw [← hw2]
  clear hw2 hb2 B1 P1 HR1
  have K0 := Lib.hid k0; clear k0
  have K1 := Lib.hid k1; clear k1
  go_loopw [30] (fun i wr => ∃ k : Nat, k ≤ 2 ∧ i = .int .i64 k ∧ Below w2.heap.size w2 wr) (fun i _ => 2 - (intOf i).toNat)
  case atStart => exact ⟨0, by omega, rfl, Below.refl _ _⟩
  case round =>
    obtain ⟨i, hi, rfl, hb⟩ := hrel
    have HB := Lib.hid hb
    by_cases hlt : i < 2
    · obtain ⟨Ap, np, cp, q, hcell, hRq, hncq, hcq⟩ : ∃ Ap np cp q, wr.cell? ⟨w1.heap.size, i, none⟩ = some (.slice Ap np cp) ∧ Reads8 wr Ap np q ∧ np ≤ cp ∧ cp ≤ maxLen := by
        rcases (by omega : i = 0 ∨ i = 1) with rfl | rfl
        · exact ⟨_, _, _, _, (hb.cell (p := ⟨w1.heap.size, 0, none⟩) ks).trans K0.out, P2.out.keep hb, hd, hdm⟩
        · exact ⟨_, _, _, _, (hb.cell (p := ⟨w1.heap.size, 1, none⟩) ks).trans K1.out, HR2.out.keep hb, hnc, hcm⟩
      have RQ := Lib.hid hRq; clear hRq hb
      have hii : (i : Int) < 2 := by omega
      go_wp2_with fail
      generalize wr = w4 at *
      go_loopw [36] (fun j wr => ∃ k : Nat, k ≤ 3 ∧ j = .int .i64 k ∧ Below w4.heap.size w4 wr) (fun j _ => 3 - (intOf j).toNat)
      case atStart => exact ⟨0, by omega, rfl, Below.refl _ _⟩
      case round =>
        obtain ⟨j, hj, rfl, hb⟩ := hrel
        have HB4 := Lib.hid hb; clear hb
        have RQ4 := Lib.hid (RQ.out.keep HB4.out)
        by_cases hltj : j < 3
        · obtain ⟨kk, hkk⟩ : ∃ kk : UInt8, (j = 0 ∧ kk = as_) ∨ (j = 1 ∧ kk = 4) ∨ (j = 2 ∧ kk = 5) := by
            rcases (by omega : j = 0 ∨ j = 1 ∨ j = 2) with h | h | h
            · exact ⟨as_, .inl ⟨h, rfl⟩⟩
            · exact ⟨4, .inr (.inl ⟨h, rfl⟩)⟩
            · exact ⟨5, .inr (.inr ⟨h, rfl⟩)⟩
          cases hi : isIdx kk q
          · have HI := Lib.hid hi; clear hi
            rcases hkk with ⟨rfl, rfl⟩ | ⟨rfl, rfl⟩ | ⟨rfl, rfl⟩
            all_goals
              go_wp2_with fail
              refine (decode_no Ap np cp _ q _ RQ4.out (Nat.le_trans hncq hcq) hncq HI.out).mono ?_
              rintro e w5 ⟨rfl, hb5⟩
              have HB5 := Lib.hid (HB4.out.trans (hb5.mono HB4.out.size))
              clear hb5
              go_wp2_with fail
              go_roundw
              case rel => first | exact ⟨1, by omega, vint rfl, HB5.out⟩ | exact ⟨2, by omega, vint rfl, HB5.out⟩ | exact ⟨3, by omega, vint rfl, HB5.out⟩
              case measure => simp [intOf]
          · have HI := Lib.hid hi; clear hi
            rcases hkk with ⟨rfl, rfl⟩ | ⟨rfl, rfl⟩ | ⟨rfl, rfl⟩
            all_goals
              go_wp2_with fail
              refine (decode_own Ap np cp _ q _ RQ4.out (Nat.le_trans hncq hcq) hncq HI.out).mono ?_
              rintro e w5 ⟨v, rfl, N, hN, hown, _, hb5⟩
              obtain ⟨A5, c5, rfl, r5, _, _, _⟩ := own_readsW hown
              have hpg := idx_page _ q HI.out
              have HPG := Lib.hid hpg; clear hpg
              have R5 := Lib.hid r5
              have HB5 := Lib.hid (HB4.out.trans (hb5.mono HB4.out.size))
              have RQ5 := Lib.hid (RQ4.out.keep hb5)
              clear hb5 hown r5
              go_wp2_with fail
              refine (encode_right A5 _ c5 _ (idxOf q) _ R5.out HPG.out.1 HPG.out.2.1).mono ?_
              rintro e w6 ⟨v, rfl, hF⟩
              rw [HPG.out.2.2] at hF
              obtain ⟨g6, d6, rfl, hg6, hd6, hdm6, hM6, hb6⟩ := hF.open_ RQ5.out.1
              have M6 := Lib.hid hM6.reads
              have RQ6 := Lib.hid (RQ5.out.keep hb6)
              have HB6 := Lib.hid (HB5.out.trans (hb6.mono HB5.out.size))
              clear hF hM6 hb6
              go_wp2_with fail
              refine (equal_any _ _ np np d6 cp _ _ _ M6.out RQ6.out).mono ?_
              rintro e w' ⟨rfl, rfl⟩
              rw [show same8 q q = true from same8_iff.2 rfl]
              go_wp2_with fail
              go_roundw
              case rel => first | exact ⟨1, by omega, vint rfl, HB6.out⟩ | exact ⟨2, by omega, vint rfl, HB6.out⟩ | exact ⟨3, by omega, vint rfl, HB6.out⟩
              case measure => simp [intOf]
        · obtain rfl : j = 3 := by omega
          go_wp2_with fail
          go_roundw
          case rel => exact ⟨i + 1, by omega, by go_num, HB.out.trans (HB4.out.mono HB.out.size)⟩
          case measure => simp [intOf]; omega
    · obtain rfl : i = 2 := by omega
      go_wp2_with fail
      refine (awake_any _).mono ?_
      rintro e w' ⟨rfl, hb5⟩
      have B5 := Lib.hid (B2.out.trans ((HB.out.trans (hb5.mono HB.out.size)).mono B2.out.size)); clear hb5
      go_wp2_with fail
      go_ret
      exact ⟨rfl, B5.out⟩

set_option maxHeartbeats 1000000 in
theorem ipages_long (A : Option Addr) (n c : Nat) (kind as_ : UInt8) (w : World) (hn1 : n ≤ maxLen) (h : 123 < n) :
    Calls Try.prog 5 #[.int .u8 (kind.toNat : Int), .int .u8 (as_.toNat : Int), .slice A n c] w fun e w' => e = .returned (.bool true) ∧ Below w.heap.size w w' := by
  go_enter Try.func5, Try.ntmps5
  go_wp2_with fail
  refine (seal_long A n c _ _ hn1 h).mono ?_
  rintro e w' ⟨rfl, rfl⟩
  go_wp2_with (go_at_call 9; refine (awake_any _).mono ?_; rintro e w' ⟨rfl, hb⟩)
  go_ret
  exact ⟨rfl, hb⟩

theorem lawPages (A : Option Addr) (n c : Nat) (kind as_ : Int) (body : List UInt8) (w : World) (h : Reads8 w A n body) (hnc : n ≤ c) (hcm : c ≤ maxLen) (hk : (Lit.int .u8 kind).wf = true) (ha : (Lit.int .u8 as_).wf = true) :
    Calls Try.prog 5 #[.int .u8 kind, .int .u8 as_, .slice A n c] w fun e w' => e = .returned (.bool true) ∧ Below w.heap.size w w' := by
  obtain ⟨u, rfl⟩ := u8_of hk
  obtain ⟨v, rfl⟩ := u8_of ha
  rcases Nat.lt_or_ge 123 n with hn | hn
  · exact ipages_long A n c u v w (Nat.le_trans hnc hcm) hn
  · exact ipages_short A n c u v body w h hnc hcm hn

end Go.Proofs.Ytcfamackncbndaa
