/-
  OctetsPages: the walk.
-/
import Derived.Test.YtndhnhpiinkcgaaOctLaws
import Derived.Test.YtndhnhpiinkcgaaPageB
namespace Go.Proofs.Ytndhnhpiinkcgaa
open Go.RowKit
set_option linter.unusedVariables false

/-- 'x += 1 + y % 255' is another byte. -/
theorem byte_bump (x : UInt8) (y : Int) (h0 : 0 ≤ y) (h1 : y < 255) : ∃ z : UInt8, z ≠ x ∧ Value.int .u8 (((x.toNat : Int) + (1 + y)) % 256) = .int .u8 (z.toNat : Int) := by
  have hx := UInt8.toNat_lt x
  refine ⟨UInt8.ofNat ((x.toNat : Int) + (1 + y)).toNat, fun e => ?_, ?_⟩
  · have := congrArg UInt8.toNat e
    simp at this
    omega
  · simp
    omega

theorem pages_long (A : Option Addr) (n c : Nat) (kind at_ by_ : Int) (w : World) (hn : n ≤ maxLen) (h : 123 < n) :
    Calls Try.prog 6 #[.int .u8 kind, .slice A n c, .int .u8 at_, .int .u8 by_] w fun e w' => e = .returned (.bool true) ∧ Below w.heap.size w w' := by
  have hn' := Lib.hid hn
  unfold maxLen at hn
  go_enter Try.func6, Try.ntmps6
  go_wp2_with (first | (go_at_call 16; refine (seal_long _ _ _ _ _ hn'.out h).mono ?_; rintro e w' ⟨rfl, rfl⟩) | (go_at_call 9; refine (awake_any _).mono ?_; rintro e w' ⟨rfl, hb⟩))
  go_ret
  exact ⟨rfl, hb⟩

set_option maxHeartbeats 2000000 in
set_option maxRecDepth 100000 in
theorem pages_short (A : Option Addr) (n c : Nat) (kind : UInt8) (at_ by_ : Int) (body : List UInt8) (w : World) (h : Reads8 w A n body) (hn : n ≤ 123) (ha0 : 0 ≤ at_) (ha1 : at_ ≤ 255) (hb0 : 0 ≤ by_) (hb1 : by_ ≤ 255) :
    Calls Try.prog 6 #[.int .u8 (kind.toNat : Int), .slice A n c, .int .u8 at_, .int .u8 by_] w fun e w' => e = .returned (.bool true) ∧ Below w.heap.size w w' := by
  have hl := Lib.hid h.1
  have hlb : body.length ≤ 123 := by have := h.1; omega
  have HR := Lib.hid h; clear h
  have HLB := Lib.hid hlb; clear hlb
  go_enter Try.func6, Try.ntmps6
  go_wp2_with fail
  refine (seal_any A n c kind body _ HR.out hn).mono ?_
  rintro e w1 ⟨v, rfl, hF⟩
  obtain ⟨g, c1, rfl, hg, hc1, hcm1, hM, hB⟩ := hF.open_ (pageOf_length kind body HLB.out)
  have M1 := Lib.hid hM
  have B1 := Lib.hid hB
  have R1 := Lib.hid (HR.out.keep hB)
  clear hM hB hF HR
  go_wp2_with fail
  refine (open_yes _ 128 c1 _ _ M1.out.reads hc1 (pageOf_isPage kind body HLB.out)).mono ?_
  rintro e w2 ⟨v, rfl, hF⟩
  rw [page_head]
  rw [page_body kind body HLB.out] at hF
  obtain ⟨g2, d, rfl, hg2, hd, hdm, hM, hB⟩ := hF.open_ (full_length body HLB.out)
  have hne : g ≠ g2 := by have := M1.out.lt; omega
  have M2 := Lib.hid (M1.out.keep hB)
  have N2 := Lib.hid hM
  have B2 := Lib.hid (B1.out.trans (hB.mono B1.out.size))
  have R2 := Lib.hid (R1.out.keep hB)
  have hgw : w.heap.size ≤ g := hg
  clear hM hB hF M1 B1 R1
  unfold maxLen at hcm1 hdm
  have hnd : (n : Int) ≤ d := by omega
  go_wp2_with fail
  have rd : Reads8 w2 (some ⟨g2, 0, none⟩) n body := by
    have := (N2.out.sub 0 n (by omega)).reads
    rw [List.drop_zero, ← hl.out, full_take, hl.out] at this
    exact this
  refine (equal_any _ _ n n d c body body _ rd R2.out).mono ?_
  rintro e w' ⟨rfl, rfl⟩
  rw [show same8 body body = true from same8_iff.2 rfl]
  clear rd R2
  by_cases hdn : d = n
  all_goals
    go_wp2_with fail
    go_loop [81] (fun i => ∃ k : Nat, k ≤ 123 - n ∧ i = .int .i64 k) (fun i => 123 - n - (intOf i).toNat)
    case atStart => exact ⟨0, Nat.zero_le _, rfl⟩
    case round =>
      obtain ⟨k, hk, rfl⟩ := hrel
      by_cases hlt : k < 123 - n
      · first
          | (exfalso; omega)
          | (have hcz : w2.cell? ⟨g2, n + k, none⟩ = some (.int .u8 0) := (N2.out.byte (n + k) 0 (full_get body _ (by have := hl.out; omega) (by omega))).1
             go_wp2
             go_round
             case rel => exact ⟨k + 1, by omega, by go_num⟩
             case measure => simp [intOf]; omega)
      · go_wp2_with fail
        refine (seal_any _ 123 _ kind (full body) _ N2.out.reads (by omega)).mono ?_
        rintro e w3 ⟨v, rfl, hF⟩
        rw [pageOf_full kind body HLB.out] at hF
        obtain ⟨g3, c3, rfl, hg3, hc3, hcm3, hM, hB⟩ := hF.open_ (pageOf_length kind body HLB.out)
        have M3 := Lib.hid (M2.out.keep hB)
        have N3 := Lib.hid hM
        have B3 := Lib.hid (B2.out.trans (hB.mono B2.out.size))
        clear hM hB hF
        go_wp2_with fail
        refine (equal_any _ _ 128 128 c3 c1 _ _ _ N3.out.reads M3.out.reads).mono ?_
        rintro e w' ⟨rfl, rfl⟩
        rw [show same8 (pageOf kind body) (pageOf kind body) = true from same8_iff.2 rfl]
        have hi0 : 0 ≤ at_ % 128 := Int.emod_nonneg _ (by omega)
        have hi1 : at_ % 128 < 128 := Int.emod_lt_of_pos _ (by omega)
        have hy0 : 0 ≤ by_ % 255 := Int.emod_nonneg _ (by omega)
        have hy1 : by_ % 255 < 255 := Int.emod_lt_of_pos _ (by omega)
        obtain ⟨x, hx⟩ : ∃ x, (pageOf kind body)[(at_ % 128).toNat]? = some x := ⟨_, List.getElem?_eq_getElem (by rw [pageOf_length kind body HLB.out]; omega)⟩
        obtain ⟨cx, fx⟩ := M3.out.byte _ x hx
        have hxl := UInt8.toNat_lt x
        have HX := Lib.hid hx; clear hx
        go_wp2_with fail
        obtain ⟨z, hz, ez⟩ := byte_bump x (by_ % 255) hy0 hy1
        rw [ez]
        clear ez cx fx
        have M4 := Lib.hid (M3.out.set (at_ % 128).toNat z (by omega))
        have B4 := Lib.hid (B3.out.setCell (p := ⟨g, (at_ % 128).toNat, none⟩) hgw (.int .u8 (z.toNat : Int)))
        have hno : isPage ((pageOf kind body).set (at_ % 128).toNat z) = false := by
          refine isPage_set _ _ _ (by rw [pageOf_length kind body HLB.out]; omega) (pageOf_isPage kind body HLB.out) ?_
          rw [(List.getElem?_eq_some_iff.1 HX.out).2]
          exact hz
        have Hno := Lib.hid hno; clear hno hz
        refine (open_no _ 128 c1 _ _ M4.out.reads (by simp only [maxLen]; omega) hc1 Hno.out).mono ?_
        rintro e w' ⟨rfl, q, rfl⟩
        have B5 : Hid (Below w.heap.size w ((w3.setCell ⟨g, (at_ % 128).toNat, none⟩ (.int .u8 (z.toNat : Int))).drewN q)) := Lib.hid (B4.out.trans ⟨rfl, rfl, rfl, Nat.le_refl _, fun _ _ => rfl⟩)
        generalize ((w3.setCell ⟨g, (at_ % 128).toNat, none⟩ (.int .u8 (z.toNat : Int))).drewN q) = W5 at B5 ⊢
        go_wp2_with fail
        refine (awake_any _).mono ?_
        rintro e w' ⟨rfl, hb⟩
        have B6 := Lib.hid (B5.out.trans (hb.mono B5.out.size)); clear hb
        go_wp2_with fail
        go_ret
        exact ⟨rfl, B6.out⟩

/-- A byte that came in. -/
theorem u8_of {a : Int} (h : (Lit.int .u8 a).wf = true) : ∃ u : UInt8, a = (u.toNat : Int) := by
  have hb := bounds_u8 h
  refine ⟨UInt8.ofNat a.toNat, ?_⟩
  simp
  omega

theorem lawPages (A : Option Addr) (n c : Nat) (kind at_ by_ : Int) (body : List UInt8) (w : World) (h : Reads8 w A n body) (hnc : n ≤ c) (hcm : c ≤ maxLen) (hk : (Lit.int .u8 kind).wf = true) (ha : (Lit.int .u8 at_).wf = true) (hb : (Lit.int .u8 by_).wf = true) :
    Calls Try.prog 6 #[.int .u8 kind, .slice A n c, .int .u8 at_, .int .u8 by_] w fun e w' => e = .returned (.bool true) ∧ Below w.heap.size w w' := by
  obtain ⟨u, rfl⟩ := u8_of hk
  have h1 := bounds_u8 ha
  have h2 := bounds_u8 hb
  rcases Nat.lt_or_ge 123 n with hn | hn
  · exact pages_long A n c _ at_ by_ w (Nat.le_trans hnc hcm) hn
  · exact pages_short A n c u at_ by_ body w h hn h1.1 h1.2 h2.1 h2.2

end Go.Proofs.Ytndhnhpiinkcgaa
