/-
  The document's disk: noughts, stands, New.
-/
import Derived.Test.YtdnhlpddnbholaaDkY
namespace Go.Proofs.Ytdnhlpddnbholaa
open Go.RowKit
set_option linter.unusedVariables false
set_option linter.unusedSimpArgs false
attribute [local go_sem ↓] Go.wp_at_zero Go.wp_at_succ

theorem noughts_any (w : World) : Calls Try.prog 46 #[] w fun e w' => e = .returned (.string ⟨(List.replicate 128 (0 : UInt8)).toArray⟩) ∧ Below w.heap.size w w' := by
  obtain ⟨i0, hi, hz0, hz1, hz2⟩ := info_parts u8info
  obtain ⟨z, hz⟩ : ∃ z, z = List.replicate 128 (0 : UInt8) := ⟨_, rfl⟩
  have HZ := Lib.hid hz
  rw [← hz]
  clear hz
  go_enter Try.func46, Try.ntmps46
  go_wp2_with (at_make; refine wpList_make_full _ rfl _ _ 37 rfl w.heap.size 5 i0 (.int .u8 0) 1 Try.underlying37 hi hz0 hz1 .i64 .i64 _ _ 128 rfl rfl rfl rfl (by rw [hz2]; omega) (by simp only [maxLen]; omega) (Nat.le_refl _) ?_)
  intro w1 hown hgrow
  have hb1 : Below w.heap.size w w1 := (Below.refl _ _).grown hgrow (Nat.le_refl _) (by intro k hk; cases hk)
  rw [made_bytes, ← HZ.out] at hown
  have hm := (MemC.of_ownC hown).1.mem8
  rw [show z.length = 128 by rw [HZ.out, List.length_replicate]] at hm
  have h1 := conv8 (some ⟨w.heap.size, 0, none⟩) 128 128 z w1 hm.reads
  clear hown hgrow hi hz0 hz1 hz2 i0 hm
  have HB := Lib.hid hb1
  clear hb1
  go_wp2_with fail
  go_ret
  exact ⟨rfl, HB.out⟩

section
variable {F : Nat → Prop} {r : Nat} {D : Dk} {C : List (Nat × List UInt8)}
set_option maxRecDepth 20000 in
theorem stands_any (w : World) (h : RefAt F w r D C) (a : Nat) : Calls Try.prog 44 #[.pointer (some ⟨r, 0, none⟩), .int .i64 (a : Int)] w fun e w' => e = .returned (.string ⟨(standsL C a).toArray⟩) ∧ Below w.heap.size w w' := by
  obtain ⟨Ac, cc, Aw, wc, h⟩ := h
  obtain ⟨h1, f1⟩ := h.head.get 1 _ rfl
  have hfew := h.few
  have w1 : IntKind.i64.wrap ((C.length : Int) - 1) = (C.length : Int) - 1 := IntWalk.i64_in _ (by omega)
  have HCM := Lib.hid h.came
  obtain ⟨sl, hsl⟩ : ∃ sl, sl = standsL C a := ⟨_, rfl⟩
  have HS : Hid (sl = match lastK C a C.length with | some i => (C.getD i nW).2 | none => List.replicate 128 0) := Lib.hid (by rw [hsl]; rfl)
  rw [← hsl]
  clear hsl
  clear h
  go_enter Try.func44, Try.ntmps44
  go_wp2_with fail
  go_loopw [5] (fun i wr => ∃ k : Nat, k ≤ C.length ∧ i = .int .i64 ((k : Int) - 1) ∧ lastK C a C.length = lastK C a k ∧ w = wr) (fun i _ => (intOf i + 1).toNat)
  case atStart => exact ⟨C.length, Nat.le_refl _, rfl, rfl, rfl⟩
  case round =>
    obtain ⟨k, hk, rfl, hlast, rfl⟩ := hrel
    have HLK := Lib.hid hlast
    clear hlast
    cases k with
    | zero =>
      have hq : ((0 : Nat) : Int) - 1 = -1 := rfl
      have HR : Hid (sl = List.replicate 128 0) := Lib.hid (by rw [HS.out, HLK.out]; rfl)
      rw [hq]
      clear hq w1
      go_wp2_with fail
      refine (noughts_any _).mono ?_
      rintro e w' ⟨rfl, hb⟩
      have HB := Lib.hid hb
      clear hb
      go_wp2_with fail
      go_ret
      exact ⟨by rw [HR.out]; rfl, HB.out⟩
    | succ j =>
      have e1 : ((j + 1 : Nat) : Int) - 1 = (j : Int) := by omega
      rw [e1]
      have j0 : (0 : Int) ≤ (j : Int) := by omega
      have j1 : (j : Int) < (C.length : Int) := by omega
      have kw : IntKind.i64.wrap ((j : Int) - 1) = (j : Int) - 1 := IntWalk.i64_in _ (by omega)
      obtain ⟨b, o, rfl, hb, c0, c1⟩ := HCM.out.wait (k := j) (by omega)
      have HL2 : Hid (lastK C a (j + 1) = if ((C.getD j nW).1 : Int) = (a : Int) then some j else lastK C a j) := Lib.hid rfl
      obtain ⟨x, hx⟩ : ∃ x, C.getD j nW = x := ⟨_, rfl⟩
      rw [hx] at c0 c1 HL2
      have HX := Lib.hid hx
      clear hx e1 hb
      by_cases he : (x.1 : Int) = (a : Int)
      · have hq : ((x.1 : Int) == (a : Int)) = true := by simpa using he
        have HR : Hid (sl = x.2) := Lib.hid (by rw [HS.out, HLK.out, HL2.out, if_pos he, ← HX.out])
        clear he
        go_wp2_with fail
        go_ret
        exact ⟨by rw [HR.out]; rfl, Below.refl _ _⟩
      · have hq : ((x.1 : Int) == (a : Int)) = false := by simpa using he
        have HR : Hid (lastK C a C.length = lastK C a j) := Lib.hid (by rw [HLK.out, HL2.out, if_neg he])
        clear he
        go_wp2_with fail
        go_roundw
        case rel => exact ⟨j, by omega, by go_num, HR.out, trivial⟩
        case measure => simp [intOf]
end

theorem newref_bad (n : Int) (w : World) (h : n < 16 ∨ 4096 < n) : Calls Try.prog 21 #[.int .i64 n] w fun e w' => e = .returned (.tuple #[.agg #[.int .i64 0, .slice none 0 0, .slice none 0 0, .int .i64 0, .bool false], .int .i64 2]) ∧ Below w.heap.size w w' := by
  by_cases h1 : n < 16
  · clear h
    go_enter Try.func21, Try.ntmps21
    go_wp2
    have hm := MemC.new w [.int .i64 0, .slice none 0 0, .slice none 0 0, .int .i64 0, .bool false] 51
    obtain ⟨q0, _⟩ := hm.get 0 _ rfl
    obtain ⟨q1, _⟩ := hm.get 1 _ rfl
    obtain ⟨q2, _⟩ := hm.get 2 _ rfl
    obtain ⟨q3, _⟩ := hm.get 3 _ rfl
    obtain ⟨q4, _⟩ := hm.get 4 _ rfl
    exact bodyPost_ret (v := .tuple #[.agg #[.int .i64 0, .slice none 0 0, .slice none 0 0, .int .i64 0, .bool false], .int .i64 2]) (by simp [results, Try.results21, go_sem, q0, q1, q2, q3, q4]) rfl ⟨rfl, (Below.refl _ w).alloc (Nat.le_refl _) _⟩
  · have h2 : 4096 < n := by omega
    clear h
    go_enter Try.func21, Try.ntmps21
    go_wp2
    have hm := MemC.new w [.int .i64 0, .slice none 0 0, .slice none 0 0, .int .i64 0, .bool false] 51
    obtain ⟨q0, _⟩ := hm.get 0 _ rfl
    obtain ⟨q1, _⟩ := hm.get 1 _ rfl
    obtain ⟨q2, _⟩ := hm.get 2 _ rfl
    obtain ⟨q3, _⟩ := hm.get 3 _ rfl
    obtain ⟨q4, _⟩ := hm.get 4 _ rfl
    exact bodyPost_ret (v := .tuple #[.agg #[.int .i64 0, .slice none 0 0, .slice none 0 0, .int .i64 0, .bool false], .int .i64 2]) (by simp [results, Try.results21, go_sem, q0, q1, q2, q3, q4]) rfl ⟨rfl, (Below.refl _ w).alloc (Nat.le_refl _) _⟩
theorem newref_good (n : Nat) (w : World) (h1 : 16 ≤ n) (h2 : n ≤ 4096) : Calls Try.prog 21 #[.int .i64 (n : Int)] w fun e w' => e = .returned (.tuple #[.agg #[.int .i64 (n : Int), .slice none 0 0, .slice none 0 0, .int .i64 (-1), .bool false], .int .i64 0]) ∧ Below w.heap.size w w' := by
  have n1 : ¬ (n : Int) < 16 := by omega
  have n2 : ¬ (4096 : Int) < (n : Int) := by omega
  · go_enter Try.func21, Try.ntmps21
    go_wp2
    have hm := MemC.new w [.int .i64 (n : Int), .slice none 0 0, .slice none 0 0, .int .i64 (-1), .bool false] 51
    obtain ⟨q0, _⟩ := hm.get 0 _ rfl
    obtain ⟨q1, _⟩ := hm.get 1 _ rfl
    obtain ⟨q2, _⟩ := hm.get 2 _ rfl
    obtain ⟨q3, _⟩ := hm.get 3 _ rfl
    obtain ⟨q4, _⟩ := hm.get 4 _ rfl
    exact bodyPost_ret (v := .tuple #[.agg #[.int .i64 (n : Int), .slice none 0 0, .slice none 0 0, .int .i64 (-1), .bool false], .int .i64 0]) (by simp [results, Try.results21, go_sem, q0, q1, q2, q3, q4]) rfl ⟨rfl, (Below.refl _ w).alloc (Nat.le_refl _) _⟩

end Go.Proofs.Ytdnhlpddnbholaa
