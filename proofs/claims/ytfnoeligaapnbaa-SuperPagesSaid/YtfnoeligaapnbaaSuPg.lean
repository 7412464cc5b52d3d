/-
  SuperPages: the walk.
-/
import Derived.Test.YtfnoeligaapnbaaSuTb
namespace Go.Proofs.Ytfnoeligaapnbaa
open Go.RowKit Go.Shelf
set_option linter.unusedVariables false
set_option linter.unusedSimpArgs false
attribute [local go_sem ↓] Go.wp_at_zero Go.wp_at_succ

theorem pages_long (A : Option Addr) (n c : Nat) (kind : UInt8) (w : World) (hn : n ≤ maxLen) (h : 123 < n) :
    Calls Try.prog 5 #[.int .u8 (kind.toNat : Int), .slice A n c] w fun e w' => e = .returned (.bool true) ∧ Below w.heap.size w w' := by
  have hn' := Lib.hid hn
  unfold maxLen at hn
  go_enter Try.func5, Try.ntmps5
  go_wp2_with fail
  refine (seal_long _ _ _ _ _ hn'.out h).mono ?_
  rintro e w' ⟨rfl, rfl⟩
  go_wp2_with fail
  refine (awake_any _).mono ?_
  rintro e w' ⟨rfl, hb⟩
  go_wp2_with fail
  go_ret
  exact ⟨rfl, hb⟩

set_option maxHeartbeats 8000000 in
set_option maxRecDepth 100000 in
theorem pages_short (A : Option Addr) (n c : Nat) (kind : UInt8) (body : List UInt8) (w : World) (h : Reads8 w A n body) (hnc : n ≤ c) (hn : n ≤ 123) :
    Calls Try.prog 5 #[.int .u8 (kind.toNat : Int), .slice A n c] w fun e w' => e = .returned (.bool true) ∧ Below w.heap.size w w' := by
  have L0 := Lib.hid h
  have hl : body.length ≤ 123 := by have := h.1; omega
  have HL := Lib.hid hl
  clear h hl
  go_enter Try.func5, Try.ntmps5
  go_wp2_with fail
  refine (seal_any A n c kind body _ L0.out hn).mono ?_
  rintro e W1 ⟨v, rfl, hF⟩
  obtain ⟨g, d, rfl, hg, hd, hdm, hM, hb⟩ := hF.open_ (pageOf_length kind body HL.out)
  have B1 := Lib.hid hb
  have L1 := Lib.hid (L0.out.keep hb)
  have P1 := Lib.hid hM.reads
  generalize pageOf kind body = pg at *
  clear hF hM hb hg L0 HL
  go_upto_region 4 with fail
  go_wp2_with fail
  obtain ⟨W2, hW2⟩ : ∃ W : World, W = W1.alloc (.cells #[.slice (some ⟨g, 0, none⟩) 128 d, .slice A n c] 28) := ⟨_, rfl⟩
  have hb : Below W1.heap.size W1 W2 := by rw [hW2]; exact (Below.refl _ W1).alloc (Nat.le_refl _) _
  have hm : MemC W2 W1.heap.size 0 [.slice (some ⟨g, 0, none⟩) 128 d, .slice A n c] := by rw [hW2]; exact MemC.new W1 [.slice (some ⟨g, 0, none⟩) 128 d, .slice A n c] _
  rw [← hW2]
  have B2 := Lib.hid (B1.out.trans (hb.mono B1.out.size))
  have L2 := Lib.hid (L1.out.keep hb)
  have P2 := Lib.hid (P1.out.keep hb)
  have M2 := Lib.hid hm
  clear hb hm hW2 B1 L1 P1
  generalize W1.heap.size = q at *
  clear W1
  go_loopw [26] (fun i wr => ∃ k : Nat, k ≤ 2 ∧ i = .int .i64 (k : Int) ∧ Below W2.heap.size W2 wr) (fun i _ => 2 - (intOf i).toNat)
  case atStart => exact ⟨0, Nat.zero_le _, rfl, Below.refl _ _⟩
  case round =>
    obtain ⟨k, hk, rfl, hb⟩ := hrel
    have BR := Lib.hid hb
    have MR := Lib.hid (M2.out.keep hb)
    have LR := Lib.hid (L2.out.keep hb)
    have PR := Lib.hid (P2.out.keep hb)
    clear hb
    by_cases hlt : k < 2
    · have he : ∃ A' m' d' p, wr.cell? ⟨q, k, none⟩ = some (.slice A' m' d') ∧ Reads8 wr A' m' p ∧ m' ≤ d' ∧ m' ≤ maxLen := by
        rcases (show k = 0 ∨ k = 1 by omega) with rfl | rfl
        · exact ⟨_, _, _, pg, (MR.out.gets 0 _ rfl).1, PR.out, hd, by simp only [maxLen]; omega⟩
        · exact ⟨_, _, _, body, (MR.out.gets 1 _ rfl).1, LR.out, hnc, by simp only [maxLen]; omega⟩
      obtain ⟨A', m', d', p, hc, hr, hmd, hmm⟩ := he
      have RR := Lib.hid hr
      have k0 : (0 : Int) ≤ (k : Int) := by omega
      have k1 : (k : Int) < 2 := by omega
      have kw : IntKind.i64.wrap ((k : Int) + 1) = (k : Int) + 1 := IntWalk.i64_in _ (by omega)
      clear hr MR LR PR
      go_wp2_with fail
      refine (decode_any A' m' d' p _ RR.out hmm hmd).mono ?_
      rintro e X ⟨rfl, hbx⟩
      go_wp2_with (refine wl_new 9 (.tmp 33) rfl rfl rfl (by rfl) (decS p) rfl rfl (by rfl) ?_)
      intro Y hbw hmw hsw
      have hb := hbx.trans (hbw.mono hbx.size)
      have BY := Lib.hid (BR.out.trans (hb.mono BR.out.size))
      have RY := Lib.hid (RR.out.keep hb)
      have NY := Lib.hid hmw
      obtain ⟨y9, hy⟩ : ∃ y, y = X.heap.size := ⟨_, rfl⟩
      rw [← hy] at NY ⊢
      clear hb hbx hbw hmw hsw hy X RR BR hc
      cases hp : isSup p
      · rw [(decS_no hp).1] at NY
        rw [(decS_no hp).2]
        clear hp
        go_wp2_with (first | ((with_reducible refine wl_load (.tmp 9) ?_ ?_ y9 (noS) ?_ NY.out ?_); rfl; rfl; rfl) | ((with_reducible refine wl_build0 ?_ ?_ ?_); rfl; rfl) | ((with_reducible refine wl_nsame (.tmp 40) (.tmp 41) 27 ?_ ?_ (noS) ?_ ?_ ?_); rfl; rfl; rfl; rfl))
        go_roundw
        case rel => exact ⟨k + 1, by omega, by go_num, BY.out⟩
        case measure => simp [intOf]; omega
      · obtain ⟨h1, h2⟩ := page_of_isSup hp
        have e1 : decS p = supOf (bodyOf p) := by unfold decS; rw [hp]; rfl
        have e2 : decE p = 0 := by unfold decE; rw [hp]; rfl
        rw [e1] at NY
        rw [e2]
        generalize supOf (bodyOf p) = s at *
        subst h1
        have H2 := Lib.hid h2
        clear hp e1 e2 h2
        go_wp2_with (first | ((with_reducible refine wl_load (.tmp 9) ?_ ?_ y9 (s) ?_ NY.out ?_); rfl; rfl; rfl))
        refine (encode_good s _ H2.out).mono ?_
        rintro e Z ⟨v, rfl, hF⟩
        obtain ⟨ge, de, rfl, _, hde, hdem, hM, hb⟩ := hF.open_ (spage_length s)
        have BZ := Lib.hid (BY.out.trans (hb.mono BY.out.size))
        have RZ := Lib.hid (RY.out.keep hb)
        have EZ := Lib.hid hM.reads
        clear hF hM hb BY RY NY
        go_wp2_with fail
        refine (equal_any _ _ 128 m' de d' _ _ _ EZ.out RZ.out).mono ?_
        rintro e w' ⟨rfl, rfl⟩
        rw [same_self]
        go_wp2_with fail
        go_roundw
        case rel => exact ⟨k + 1, by omega, by go_num, BZ.out⟩
        case measure => simp [intOf]; omega
    · obtain rfl : k = 2 := by omega
      rw [show ((2 : Nat) : Int) = 2 from rfl]
      go_wp2_with fail
      refine (awake_any _).mono ?_
      rintro e Wz ⟨rfl, hbz⟩
      have BZ := Lib.hid (B2.out.trans ((BR.out.trans (hbz.mono BR.out.size)).mono B2.out.size))
      clear hbz
      go_wp2_with fail
      go_ret
      exact ⟨rfl, BZ.out⟩

theorem lawPagesS (kind : UInt8) (A : Option Addr) (n c : Nat) (body : List UInt8) (w : World) (h : Reads8 w A n body) (hnc : n ≤ c) (hcm : c ≤ maxLen) :
    Calls Try.prog 5 #[.int .u8 (kind.toNat : Int), .slice A n c] w fun e w' => e = .returned (.bool true) ∧ Below w.heap.size w w' := by
  by_cases h1 : n ≤ 123
  · exact pages_short A n c kind body w h hnc h1
  · exact pages_long A n c kind w (Nat.le_trans hnc hcm) (by omega)

end Go.Proofs.Ytfnoeligaapnbaa
