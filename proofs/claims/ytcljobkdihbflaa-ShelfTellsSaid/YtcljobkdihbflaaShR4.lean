/-
  catchmentref04.Decode.
-/
import Derived.Test.YtcljobkdihbflaaShR3
namespace Go.Proofs.Ytcljobkdihbflaa
open Go.RowKit
set_option linter.unusedVariables false
attribute [local go_sem ↓] Go.wp_at_zero Go.wp_at_succ

set_option maxHeartbeats 2000000 in
set_option maxRecDepth 100000 in
theorem rdecode_none (A : Option Addr) (n c : Nat) (p : List UInt8) (w : World) (h : Reads8 w A n p) (hn : n ≤ maxLen) (hnc : n ≤ c) (hp : isPage p = false) :
    Calls Try.prog 15 #[.slice A n c] w fun e w' => e = .returned (.tuple #[sz, .int .i64 40]) ∧ Below w.heap.size w w' := by
  have HR := Lib.hid h; clear h
  have HP := Lib.hid hp; clear hp
  have B0 := Lib.hid ((Below.refl w.heap.size w).alloc (Nat.le_refl _) (.cells #[.int .u8 0, .int .u32 0, .slice none 0 0] 25))
  go_enter Try.func15, Try.ntmps15
  go_wp2_with fail
  refine (ropen_no A n c p _ (HR.out.keep B0.out) hn hnc HP.out).mono ?_
  rintro e w1 ⟨rfl, q, rfl⟩
  go_wp2_with fail
  refine bodyPost_ret (v := .tuple #[sz, .int .i64 40]) (by simp [results, Try.results15, go_sem, sz]) rfl ⟨rfl, ?_⟩
  exact below_set3 (below_dN B0.out _) (Nat.le_refl _) _ _ _

set_option maxHeartbeats 2000000 in
set_option maxRecDepth 100000 in
theorem rdecode_kind (A : Option Addr) (n c : Nat) (p : List UInt8) (w : World) (h : Reads8 w A n p) (hn : n ≤ maxLen) (hnc : n ≤ c) (hp : isPage p = true) (hk : p.headD 0 ≠ 3) :
    Calls Try.prog 15 #[.slice A n c] w fun e w' => e = .returned (.tuple #[sz, .int .i64 40]) ∧ Below w.heap.size w w' := by
  have HR := Lib.hid h; clear h
  have HP := Lib.hid hp; clear hp
  have HL := Lib.hid (bodyOf_length HP.out)
  have hgen : ∀ kd : UInt8, kd ≠ 3 → ((kd.toNat : Int) != 3) = true := by
    intro kd hk
    simp; intro e; exact hk (UInt8.toNat_inj.1 (by show kd.toNat = 3; omega))
  obtain ⟨kd, hkd⟩ : ∃ kd, kd = p.headD 0 := ⟨_, rfl⟩
  rw [← hkd] at hk
  have hk3 := hgen _ hk
  have HKD := Lib.hid hkd
  clear hk hgen hkd
  obtain ⟨W0, hW0⟩ : ∃ W0 : World, W0 = w.alloc (.cells #[.int .u8 0, .int .u32 0, .slice none 0 0] 25) := ⟨_, rfl⟩
  have B0 : Hid (Below w.heap.size w W0) := Lib.hid (by rw [hW0]; exact (Below.refl _ _).alloc (Nat.le_refl _) _)
  have hM : MemC W0 w.heap.size 0 [.int .u8 0, .int .u32 0, .slice none 0 0] := by rw [hW0]; exact MemC.new w [.int .u8 0, .int .u32 0, .slice none 0 0] 25
  have M0 := Lib.hid hM; clear hM
  have HW := Lib.hid hW0; clear hW0
  go_enter Try.func15, Try.ntmps15
  go_upto_region 1 with fail
  rw [← HW.out]
  clear HW
  go_wp2_with fail
  refine (ropen_yes A n c p _ (HR.out.keep B0.out) hnc HP.out).mono ?_
  rw [← HKD.out]
  rintro e w1 ⟨v, rfl, hF⟩
  obtain ⟨g, d, rfl, hg, hd, hdm, hM, hB⟩ := hF.open_ HL.out
  have M1 := M0.out.keep hB
  obtain ⟨a0, f0⟩ := M1.get 0 _ rfl
  obtain ⟨a1, f1⟩ := M1.get 1 _ rfl
  obtain ⟨a2, f2⟩ := M1.get 2 _ rfl
  have B1 := Lib.hid (B0.out.trans (hB.mono B0.out.size))
  clear hM hB hF M1
  go_wp2_with fail
  refine bodyPost_ret (v := .tuple #[sz, .int .i64 40]) (by simp [results, Try.results15, go_sem, sz, a0, a1, a2]) rfl ⟨rfl, ?_⟩
  exact below_set3 B1.out (Nat.le_refl _) _ _ _

set_option maxHeartbeats 2000000 in
set_option maxRecDepth 100000 in
theorem rdecode_many (A : Option Addr) (n c : Nat) (p : List UInt8) (w : World) (h : Reads8 w A n p) (hn : n ≤ maxLen) (hnc : n ≤ c) (hp : isPage p = true) (hk : p.headD 0 = 3) (hm9 : 9 < manyOf (bodyOf p)) :
    Calls Try.prog 15 #[.slice A n c] w fun e w' => e = .returned (.tuple #[sz, .int .i64 40]) ∧ Below w.heap.size w w' := by
  have HR := Lib.hid h; clear h
  have HP := Lib.hid hp; clear hp
  have HL := Lib.hid (bodyOf_length HP.out)
  have HK := Lib.hid hk; clear hk
  obtain ⟨W0, hW0⟩ : ∃ W0 : World, W0 = w.alloc (.cells #[.int .u8 0, .int .u32 0, .slice none 0 0] 25) := ⟨_, rfl⟩
  have B0 : Hid (Below w.heap.size w W0) := Lib.hid (by rw [hW0]; exact (Below.refl _ _).alloc (Nat.le_refl _) _)
  have hM : MemC W0 w.heap.size 0 [.int .u8 0, .int .u32 0, .slice none 0 0] := by rw [hW0]; exact MemC.new w [.int .u8 0, .int .u32 0, .slice none 0 0] 25
  have M0 := Lib.hid hM; clear hM
  have HW := Lib.hid hW0; clear hW0
  have hmb : [UInt8.ofNat (manyOf (bodyOf p))] = ((bodyOf p).drop 1).take 1 := byte_at (bodyOf p) 1 (by have := HL.out; omega)
  have hml := numAt_lt (bodyOf p) 1 1
  have HMB := Lib.hid hmb; clear hmb
  go_enter Try.func15, Try.ntmps15
  go_upto_region 1 with fail
  rw [← HW.out]
  clear HW
  go_wp2_with fail
  refine (ropen_yes A n c p _ (HR.out.keep B0.out) hnc HP.out).mono ?_
  rw [HK.out]
  rintro e w1 ⟨v, rfl, hF⟩
  obtain ⟨g, d, rfl, hg, hd, hdm, hM, hB⟩ := hF.open_ HL.out
  replace hM : Mem8 w1 g 0 123 (bodyOf p) := hM
  have h1 : w1.cell? ⟨g, 1, none⟩ = some (.int .u8 (manyOf (bodyOf p) : Int)) := by
    have hc := hM.cell 1 (by have := HL.out; omega)
    rw [Nat.zero_add] at hc
    rw [hc]
    have h2 := HMB.out
    rw [List.drop_eq_getElem_cons (by have := HL.out; omega), List.take_succ_cons, List.take_zero] at h2
    injection h2 with h2 _
    rw [← h2]
    have : (UInt8.ofNat (manyOf (bodyOf p))).toNat = manyOf (bodyOf p) := by
      have : manyOf (bodyOf p) < 256 := hml
      simp; omega
    rw [this]
  have M1 := M0.out.keep hB
  obtain ⟨a0, f0⟩ := M1.get 0 _ rfl
  obtain ⟨a1, f1⟩ := M1.get 1 _ rfl
  obtain ⟨a2, f2⟩ := M1.get 2 _ rfl
  have B1 := Lib.hid (B0.out.trans (hB.mono B0.out.size))
  clear hM hB hF M1 hml
  generalize manyOf (bodyOf p) = m at *
  have hmi : (9 : Int) < (m : Int) := by omega
  go_wp2_with fail
  refine bodyPost_ret (v := .tuple #[sz, .int .i64 40]) (by simp [results, Try.results15, go_sem, sz, a0, a1, a2]) rfl ⟨rfl, ?_⟩
  exact below_set3 B1.out (Nat.le_refl _) _ _ _

end Go.Proofs.Ytcljobkdihbflaa
