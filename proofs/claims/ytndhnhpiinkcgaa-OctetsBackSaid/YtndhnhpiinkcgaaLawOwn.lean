/-
  OctetsOwn: the walk.
-/
import Derived.Test.YtndhnhpiinkcgaaLawPages
namespace Go.Proofs.Ytndhnhpiinkcgaa
open Go.RowKit
set_option linter.unusedVariables false

/-- n cells of block b hold some bytes. -/
def Some8 (w : World) (b n : Nat) : Prop := ∀ j, j < n → ∃ x : UInt8, w.cell? ⟨b, j, none⟩ = some (.int .u8 (x.toNat : Int))
theorem Mem8.some8 {w : World} {b n : Nat} {l : List UInt8} (h : Mem8 w b 0 n l) : Some8 w b n := fun j hj => by
  have h1 := h.cell j (by rw [h.len]; exact hj)
  rw [Nat.zero_add] at h1
  exact ⟨_, h1⟩
theorem Some8.set {w : World} {b n : Nat} (h : Some8 w b n) (i : Nat) (z : UInt8) : Some8 (w.setCell ⟨b, i, none⟩ (.int .u8 (z.toNat : Int))) b n := fun j hj => by
  obtain ⟨x, hx⟩ := h j hj
  by_cases e : i = j
  · subst e
    exact ⟨z, World.cell?_setCell_same' _ _ _ (by rw [hx]; rfl)⟩
  · exact ⟨x, by rw [World.cell?_setCell_other w ⟨b, i, none⟩ ⟨b, j, none⟩ _ (fun e2 => by injection e2 with _ e3; exact e e3)]; exact hx⟩

theorem byte_inc (x : UInt8) : Value.int .u8 (((x.toNat : Int) + 1) % 256) = .int .u8 ((x + 1).toNat : Int) := by
  rw [UInt8.toNat_add, show (1 : UInt8).toNat = 1 from rfl]; simp

theorem own_long (A : Option Addr) (n c : Nat) (kind : Int) (w : World) (hn : n ≤ maxLen) (h : 123 < n) :
    Calls Try.prog 8 #[.int .u8 kind, .slice A n c] w fun e w' => e = .returned (.bool true) ∧ Below w.heap.size w w' := by
  unfold maxLen at hn
  go_enter Try.func8, Try.ntmps8
  go_wp2_with (go_at_call 9; refine (awake_any _).mono ?_; rintro e w' ⟨rfl, hb⟩)
  go_ret
  exact ⟨rfl, hb⟩

set_option maxHeartbeats 2000000 in
set_option maxRecDepth 100000 in
theorem own_short (A : Option Addr) (n c : Nat) (kind : UInt8) (body : List UInt8) (w : World) (h : Reads8 w A n body) (hn : n ≤ 123) :
    Calls Try.prog 8 #[.int .u8 (kind.toNat : Int), .slice A n c] w fun e w' => e = .returned (.bool true) ∧ Below w.heap.size w w' := by
  have hl := Lib.hid h.1
  have hlb : body.length ≤ 123 := by have := h.1; omega
  have HR := Lib.hid h; clear h
  have HLB := Lib.hid hlb; clear hlb
  go_enter Try.func8, Try.ntmps8
  go_wp2_with fail
  refine (again_any A n c body _ HR.out (by simp only [maxLen]; omega)).mono ?_
  rintro e w1 ⟨v, rfl, hF⟩
  obtain ⟨gi, ci, rfl, hgi, hci, hcmi, hM, hB⟩ := hF.open_ hl.out
  have MI1 := Lib.hid hM
  have B1 := Lib.hid hB
  clear hM hB hF HR
  go_wp2_with fail
  refine (seal_any _ n ci kind body _ MI1.out.reads hn).mono ?_
  rintro e w2 ⟨v, rfl, hF⟩
  obtain ⟨gp, cp, rfl, hgp, hcp, hcmp, hM, hB⟩ := hF.open_ (pageOf_length kind body HLB.out)
  have MI2 := Lib.hid (MI1.out.keep hB)
  have MP2 := Lib.hid hM
  have B2 := Lib.hid (B1.out.trans (hB.mono B1.out.size))
  have hgpi : gp ≠ gi := by have := MI1.out.lt; omega
  have hgiw : w.heap.size ≤ gi := hgi
  have hgpw : w.heap.size ≤ gp := Nat.le_trans B1.out.size hgp
  clear hM hB hF MI1 B1 hgi hgp
  go_wp2_with fail
  refine (again_any _ 128 cp _ _ MP2.out.reads (by simp only [maxLen]; omega)).mono ?_
  rintro e w3 ⟨v, rfl, hF⟩
  obtain ⟨gk, ck, rfl, hgk, hck, hcmk, hM, hB⟩ := hF.open_ (pageOf_length kind body HLB.out)
  have MI3 := Lib.hid (MI2.out.keep hB)
  have MP3 := Lib.hid (MP2.out.keep hB)
  have MK3 := Lib.hid hM
  have B3 := Lib.hid (B2.out.trans (hB.mono B2.out.size))
  have hgki : gk ≠ gi := by have := MI2.out.lt; omega
  have hgkw : w.heap.size ≤ gk := Nat.le_trans B2.out.size hgk
  clear hM hB hF MI2 MP2 B2 hgk
  go_wp2_with fail
  go_loopw [30] (fun i wr => ∃ k : Nat, k ≤ n ∧ i = .int .i64 k ∧ Wrote w3 wr gi 0 n ∧ Some8 wr gi n) (fun i _ => n - (intOf i).toNat)
  case atStart => exact ⟨0, Nat.zero_le _, rfl, Wrote.refl _ _ _ _, MI3.out.some8⟩
  case round =>
    obtain ⟨k, hk, rfl, hwr, hso⟩ := hrel
    have HW := Lib.hid hwr; clear hwr
    have HS := Lib.hid hso; clear hso
    by_cases hlt : k < n
    · obtain ⟨x, cx⟩ := HS.out k hlt
      have fx : wr.frozen? ⟨gi, k, none⟩ = false := by
        rw [HW.out.frz]; have := MI3.out.free k (by rw [hl.out]; exact hlt); simpa using this
      have hxl := UInt8.toNat_lt x
      go_wp2
      rw [byte_inc]
      go_roundw
      case rel => exact ⟨k + 1, by omega, by go_num, HW.out.trans ((Wrote.set _ _ _ _).mono (Nat.zero_le _) (by omega)), HS.out.set k (x + 1)⟩
      case measure => simp [intOf]; omega
    · have MP4 := Lib.hid (HW.out.far MP3.out (.inl hgpi))
      have MK4 := Lib.hid (HW.out.far MK3.out (.inl hgki))
      have B4 := Lib.hid (B3.out.trans (HW.out.below hgiw))
      clear HW HS MP3 MK3 B3
      go_wp2_with fail
      refine (open_yes _ 128 cp _ _ MP4.out.reads hcp (pageOf_isPage kind body HLB.out)).mono ?_
      rintro e w5 ⟨v, rfl, hF⟩
      rw [page_head]
      rw [page_body kind body HLB.out] at hF
      obtain ⟨gs, cs, rfl, hgs, hcs, hcms, hM, hB⟩ := hF.open_ (full_length body HLB.out)
      have MP5 := Lib.hid (MP4.out.keep hB)
      have MK5 := Lib.hid (MK4.out.keep hB)
      have MS5 := Lib.hid hM
      have B5 := Lib.hid (B4.out.trans (hB.mono B4.out.size))
      have hgps : gp ≠ gs := by have := MP4.out.lt; omega
      have hgks : gk ≠ gs := by have := MK4.out.lt; omega
      have hgsw : w.heap.size ≤ gs := Nat.le_trans B4.out.size hgs
      clear hM hB hF MP4 MK4 B4 hgs
      go_wp2_with fail
      go_loopw [48] (fun i wr => ∃ k : Nat, k ≤ 123 ∧ i = .int .i64 k ∧ Wrote w5 wr gs 0 123 ∧ Some8 wr gs 123) (fun i _ => 123 - (intOf i).toNat)
      case atStart => exact ⟨0, Nat.zero_le _, rfl, Wrote.refl _ _ _ _, MS5.out.some8⟩
      case round =>
        obtain ⟨j, hj, rfl, hwr, hso⟩ := hrel
        have HW := Lib.hid hwr; clear hwr
        have HS := Lib.hid hso; clear hso
        by_cases hltj : j < 123
        · obtain ⟨x, cx⟩ := HS.out j hltj
          have fx : wr.frozen? ⟨gs, j, none⟩ = false := by
            rw [HW.out.frz]; have := MS5.out.free j (by rw [full_length body HLB.out]; exact hltj); simpa using this
          go_wp2
          go_roundw
          case rel => exact ⟨j + 1, by omega, by go_num, HW.out.trans ((Wrote.set _ _ _ _).mono (Nat.zero_le _) (by omega)), HS.out.set j 99⟩
          case measure => simp [intOf]; omega
        · have MP6 := Lib.hid (HW.out.far MP5.out (.inl hgps))
          have MK6 := Lib.hid (HW.out.far MK5.out (.inl hgks))
          have B6 := Lib.hid (B5.out.trans (HW.out.below hgsw))
          clear HW HS MP5 MK5 B5
          go_wp2_with fail
          refine (equal_any _ _ 128 128 cp ck _ _ _ MP6.out.reads MK6.out.reads).mono ?_
          rintro e w' ⟨rfl, rfl⟩
          rw [show same8 (pageOf kind body) (pageOf kind body) = true from same8_iff.2 rfl]
          go_wp2_with fail
          refine (awake_any _).mono ?_
          rintro e w' ⟨rfl, hb⟩
          have B7 := Lib.hid (B6.out.trans (hb.mono B6.out.size)); clear hb
          go_wp2_with fail
          go_ret
          exact ⟨rfl, B7.out⟩

theorem lawOwn (A : Option Addr) (n c : Nat) (kind : Int) (body : List UInt8) (w : World) (h : Reads8 w A n body) (hnc : n ≤ c) (hcm : c ≤ maxLen) (hk : (Lit.int .u8 kind).wf = true) :
    Calls Try.prog 8 #[.int .u8 kind, .slice A n c] w fun e w' => e = .returned (.bool true) ∧ Below w.heap.size w w' := by
  obtain ⟨u, rfl⟩ := u8_of hk
  rcases Nat.lt_or_ge 123 n with hn | hn
  · exact own_long A n c _ w (Nat.le_trans hnc hcm) hn
  · exact own_short A n c u body w h hn

end Go.Proofs.Ytndhnhpiinkcgaa
