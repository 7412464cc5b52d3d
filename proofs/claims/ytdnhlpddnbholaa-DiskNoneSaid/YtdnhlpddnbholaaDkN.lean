/-
  DiskNone: a disk that was not made by New; the walk.
-/
import Derived.Test.YtdnhlpddnbholaaDkL
namespace Go.Proofs.Ytdnhlpddnbholaa
open Go.RowKit
set_option linter.unusedVariables false
set_option linter.unusedSimpArgs false
attribute [local go_sem ↓] Go.wp_at_zero Go.wp_at_succ

/-- No disk: nil, or one of noughts. -/
def NoneP (w : World) (P : Option Addr) : Prop := P = none ∨ ∃ p, P = some ⟨p, 0, none⟩ ∧ MemC w p 0 [.slice none 0 0, .slice none 0 0, .int .i64 0, .bool false]
theorem NoneP.keep {w w' : World} {P : Option Addr} (h : NoneP w P) (hb : Below w.heap.size w w') : NoneP w' P := h.imp id fun ⟨p, e, hm⟩ => ⟨p, e, hm.keep hb⟩

section
variable {P : Option Addr}
set_option maxRecDepth 20000 in
theorem may_none (w : World) (h : NoneP w P) : Calls Try.prog 30 #[.pointer P] w fun e w' => e = .returned (.int .i64 1) ∧ w = w' := by
  have qn := fun (w : World) (a : Option Addr) (n c n' c' : Nat) => Lib.run_eql_slice_nil (P := Try.prog) w 70 _ a n c n' c' Try.underlying70
  rcases h with rfl | ⟨p, rfl, hm⟩
  · go_enter Try.func30, Try.ntmps30
    go_wp2
    go_ret
    exact ⟨rfl, rfl⟩
  · obtain ⟨h0, _⟩ := hm.get 0 _ rfl
    clear hm
    go_enter Try.func30, Try.ntmps30
    go_wp2
    go_ret
    exact ⟨rfl, rfl⟩
theorem read_none (w : World) (h : NoneP w P) (a : Int) : Calls Try.prog 14 #[.pointer P, .int .i64 a] w fun e w' => e = .returned (.tuple #[.slice none 0 0, .int .i64 1]) ∧ w = w' := by
  have HM := Lib.hid (may_none w h)
  clear h
  go_enter Try.func14, Try.ntmps14
  go_wp2_with fail
  refine HM.out.mono ?_
  rintro e w' ⟨rfl, rfl⟩
  go_wp2_with fail
  go_ret2
  exact ⟨rfl, rfl⟩
theorem write_none (w : World) (h : NoneP w P) (a : Int) (B : Option Addr) (m d : Nat) : Calls Try.prog 18 #[.pointer P, .int .i64 a, .slice B m d] w fun e w' => e = .returned (.int .i64 1) ∧ w = w' := by
  have HM := Lib.hid (may_none w h)
  clear h
  go_enter Try.func18, Try.ntmps18
  go_wp2_with fail
  refine HM.out.mono ?_
  rintro e w' ⟨rfl, rfl⟩
  go_wp2_with fail
  go_ret
  exact ⟨rfl, rfl⟩
theorem flush_none (w : World) (h : NoneP w P) : Calls Try.prog 20 #[.pointer P] w fun e w' => e = .returned (.int .i64 1) ∧ w = w' := by
  have HM := Lib.hid (may_none w h)
  clear h
  go_enter Try.func20, Try.ntmps20
  go_wp2_with fail
  refine HM.out.mono ?_
  rintro e w' ⟨rfl, rfl⟩
  go_wp2_with fail
  go_ret
  exact ⟨rfl, rfl⟩
theorem arm_none (w : World) (h : NoneP w P) (a : Int) : Calls Try.prog 17 #[.pointer P, .int .i64 a] w fun e w' => e = .returned (.int .i64 1) ∧ w = w' := by
  have HM := Lib.hid (may_none w h)
  clear h
  go_enter Try.func17, Try.ntmps17
  go_wp2_with fail
  refine HM.out.mono ?_
  rintro e w' ⟨rfl, rfl⟩
  go_wp2_with fail
  go_ret
  exact ⟨rfl, rfl⟩
theorem crash_none (w : World) (h : NoneP w P) (K : Option Addr) (kn kc : Nat) (torn cut : Int) : Calls Try.prog 11 #[.pointer P, .agg #[.slice K kn kc, .int .i64 torn, .int .i64 cut]] w fun e w' => e = .returned (.int .i64 1) ∧ Below w.heap.size w w' := by
  have hb1 : Below w.heap.size w (w.alloc (.cells #[.slice K kn kc, .int .i64 torn, .int .i64 cut] 25)) := (Below.refl _ w).alloc (Nat.le_refl _) _
  have HM := Lib.hid (may_none _ (h.keep hb1))
  have HB := Lib.hid hb1
  clear h hb1
  go_enter Try.func11, Try.ntmps11
  go_wp2_with fail
  refine HM.out.mono ?_
  rintro e w' ⟨rfl, rfl⟩
  go_wp2_with fail
  go_ret
  exact ⟨rfl, HB.out⟩
theorem copy_none (w : World) (h : NoneP w P) : Calls Try.prog 26 #[.pointer P] w fun e w' => e = .returned (.pointer none) ∧ w = w' := by
  have HM := Lib.hid (may_none w h)
  clear h
  go_enter Try.func26, Try.ntmps26
  go_wp2_with fail
  refine HM.out.mono ?_
  rintro e w' ⟨rfl, rfl⟩
  go_wp2_with fail
  go_ret
  exact ⟨rfl, rfl⟩
theorem len_none (w : World) (h : NoneP w P) : Calls Try.prog 29 #[.pointer P] w fun e w' => e = .returned (.int .i64 0) ∧ w = w' := by
  rcases h with rfl | ⟨p, rfl, hm⟩
  · go_enter Try.func29, Try.ntmps29
    go_wp2
    go_ret
    exact ⟨rfl, rfl⟩
  · obtain ⟨h0, _⟩ := hm.get 0 _ rfl
    clear hm
    go_enter Try.func29, Try.ntmps29
    go_wp2
    go_ret
    exact ⟨rfl, rfl⟩
theorem down_none (w : World) (h : NoneP w P) : Calls Try.prog 13 #[.pointer P] w fun e w' => e = .returned (.bool false) ∧ w = w' := by
  rcases h with rfl | ⟨p, rfl, hm⟩
  · go_enter Try.func13, Try.ntmps13
    go_wp2
    go_ret
    exact ⟨rfl, rfl⟩
  · obtain ⟨h0, _⟩ := hm.get 3 _ rfl
    clear hm
    go_enter Try.func13, Try.ntmps13
    go_wp2
    go_ret
    exact ⟨rfl, rfl⟩
theorem cached_none (w : World) (h : NoneP w P) : Calls Try.prog 12 #[.pointer P] w fun e w' => e = .returned (.slice none 0 0) ∧ w = w' := by
  rcases h with rfl | ⟨p, rfl, hm⟩
  · go_enter Try.func12, Try.ntmps12
    go_wp2
    go_ret
    exact ⟨rfl, rfl⟩
  · obtain ⟨h0, _⟩ := hm.get 1 _ rfl
    clear hm
    go_enter Try.func12, Try.ntmps12
    go_wp2_with fail
    clear h0
    go_loopw [3, 14] (fun o i wr => o = .slice none 0 0 ∧ i = .int .i64 0 ∧ wr = w) (fun _ _ _ => 0)
    case atStart => exact ⟨rfl, rfl, rfl⟩
    case round =>
      obtain ⟨rfl, rfl, rfl⟩ := hrel
      go_wp2_with fail
      go_ret
      exact ⟨rfl, rfl⟩
end

set_option maxRecDepth 100000 in
set_option maxHeartbeats 4000000 in
theorem lawNone (a : Int) (B : Option Addr) (m d : Nat) (K : Option Addr) (kn kc : Nat) (torn cut : Int) (w : World) :
    Calls Try.prog 8 #[.int .i64 a, .slice B m d, .agg #[.slice K kn kc, .int .i64 torn, .int .i64 cut]] w fun e w' => e = .returned (.bool true) ∧ Below w.heap.size w w' := by
  go_enter Try.func8, Try.ntmps8
  go_upto_region 2 with fail
  obtain ⟨w1, hw1⟩ : ∃ W : World, W = w.alloc (.cells #[.slice K kn kc, .int .i64 torn, .int .i64 cut] 25) := ⟨_, rfl⟩
  have hb1 : Below w.heap.size w w1 := by rw [hw1]; exact (Below.refl _ w).alloc (Nat.le_refl _) _
  have hc1 : MemC w1 w.heap.size 0 [.slice K kn kc, .int .i64 torn, .int .i64 cut] := by rw [hw1]; exact MemC.new w [.slice K kn kc, .int .i64 torn, .int .i64 cut] _
  rw [← hw1]
  have B1 := Lib.hid hb1
  have C1 := Lib.hid hc1
  clear hw1 hb1 hc1
  go_wp2_with fail
  obtain ⟨w2, hw2⟩ : ∃ W : World, W = (w1.alloc (.cells #[.slice none 0 0, .slice none 0 0, .int .i64 0, .bool false] 77)).alloc (.cells #[.pointer none, .pointer (some ⟨w1.heap.size, 0, none⟩)] 26) := ⟨_, rfl⟩
  have hb2 : Below w1.heap.size w1 w2 := by rw [hw2]; exact ((Below.refl _ w1).alloc (Nat.le_refl _) _).alloc (by simp) _
  have hz : (w1.alloc (.cells #[.slice none 0 0, .slice none 0 0, .int .i64 0, .bool false] 77)).heap.size = w1.heap.size + 1 := by simp
  have hm2 : MemC w2 (w1.heap.size + 1) 0 [.pointer none, .pointer (some ⟨w1.heap.size, 0, none⟩)] := by
    have := MemC.new (w1.alloc (.cells #[.slice none 0 0, .slice none 0 0, .int .i64 0, .bool false] 77)) [.pointer none, .pointer (some ⟨w1.heap.size, 0, none⟩)] 26
    rw [hz] at this
    rw [hw2]
    exact this
  have hn2 : NoneP w2 (some ⟨w1.heap.size, 0, none⟩) := .inr ⟨_, rfl, by
    rw [hw2]
    exact (MemC.new w1 [.slice none 0 0, .slice none 0 0, .int .i64 0, .bool false] 77).keep ((Below.refl _ _).alloc (Nat.le_refl _) _)⟩
  rw [← hw2]
  have B2 := Lib.hid (B1.out.trans (hb2.mono B1.out.size))
  have C2 := Lib.hid (C1.out.keep hb2)
  have M2 := Lib.hid hm2
  have N2 := Lib.hid hn2
  clear hb2 hz hm2 hn2 hw2 B1 C1
  generalize w1.heap.size = q0 at *
  clear w1
  go_loopw [17] (fun i wr => ∃ k : Nat, k ≤ 2 ∧ i = .int .i64 (k : Int) ∧ Below w2.heap.size w2 wr) (fun i _ => 2 - (intOf i).toNat)
  case atStart => exact ⟨0, Nat.zero_le _, rfl, Below.refl _ _⟩
  case round =>
    obtain ⟨k, hk, rfl, hb⟩ := hrel
    have HB := Lib.hid hb
    have CR := Lib.hid (C2.out.keep hb)
    have MR := Lib.hid (M2.out.keep hb)
    have NR := Lib.hid (N2.out.keep hb)
    clear hb
    by_cases hlt : k < 2
    · have he : ∃ P, wr.cell? ⟨q0 + 1, k, none⟩ = some (.pointer P) ∧ NoneP wr P := by
        rcases (show k = 0 ∨ k = 1 by omega) with rfl | rfl
        · exact ⟨_, (MR.out.get 0 _ rfl).1, .inl rfl⟩
        · exact ⟨_, (MR.out.get 1 _ rfl).1, NR.out⟩
      obtain ⟨P, hc, hP⟩ := he
      have HP := Lib.hid hP
      have k0 : (0 : Int) ≤ (k : Int) := by omega
      have k1 : (k : Int) < 2 := by omega
      have kw : IntKind.i64.wrap ((k : Int) + 1) = (k : Int) + 1 := IntWalk.i64_in _ (by omega)
      clear hP MR NR
      go_wp2_with fail
      refine (read_none _ HP.out a).mono ?_
      rintro e w' ⟨rfl, rfl⟩
      clear hc
      go_wp2_with fail
      refine (write_none _ HP.out a B m d).mono ?_
      rintro e w' ⟨rfl, rfl⟩
      go_wp2_with fail
      refine (flush_none _ HP.out).mono ?_
      rintro e w' ⟨rfl, rfl⟩
      go_wp2_with fail
      refine (arm_none _ HP.out a).mono ?_
      rintro e w' ⟨rfl, rfl⟩
      obtain ⟨c0, _⟩ := CR.out.get 0 _ rfl
      obtain ⟨c1, _⟩ := CR.out.get 1 _ rfl
      obtain ⟨c2, _⟩ := CR.out.get 2 _ rfl
      go_wp2_with fail
      refine (crash_none _ HP.out K kn kc torn cut).mono ?_
      rintro e w3 ⟨rfl, hb⟩
      have B3 := Lib.hid (HB.out.trans (hb.mono HB.out.size))
      have P3 := Lib.hid (HP.out.keep hb)
      clear hb c0 c1 c2 HB HP CR
      go_wp2_with fail
      refine (len_none _ P3.out).mono ?_
      rintro e w' ⟨rfl, rfl⟩
      go_wp2_with fail
      refine (cached_none _ P3.out).mono ?_
      rintro e w' ⟨rfl, rfl⟩
      go_wp2_with fail
      refine (down_none _ P3.out).mono ?_
      rintro e w' ⟨rfl, rfl⟩
      go_wp2_with fail
      refine (copy_none _ P3.out).mono ?_
      rintro e w' ⟨rfl, rfl⟩
      go_wp2_with fail
      go_roundw
      case rel => exact ⟨k + 1, by omega, by go_num, B3.out⟩
      case measure => simp [intOf]; omega
    · obtain rfl : k = 2 := by omega
      rw [show ((2 : Nat) : Int) = 2 from rfl]
      go_wp2_with fail
      refine (awake_any _).mono ?_
      rintro e wz ⟨rfl, hbz⟩
      have BZ := Lib.hid (B2.out.trans ((HB.out.trans (hbz.mono HB.out.size)).mono B2.out.size))
      clear hbz
      go_wp2_with fail
      go_ret
      exact ⟨rfl, BZ.out⟩

end Go.Proofs.Ytdnhlpddnbholaa
