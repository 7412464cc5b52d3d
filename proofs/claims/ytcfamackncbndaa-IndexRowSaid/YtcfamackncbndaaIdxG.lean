/-
  index.Decode: a page that is none of numbers of this kind.
-/
import Derived.Test.YtcfamackncbndaaIdxF
namespace Go.Proofs.Ytcfamackncbndaa
open Go.RowKit Go.Shelf
set_option linter.unusedVariables false
attribute [local go_sem] Oper.semAt_some

set_option maxRecDepth 100000 in
set_option maxHeartbeats 2000000 in
theorem decode_bad (A : Option Addr) (n c : Nat) (kind : UInt8) (p : List UInt8) (w : World) (h : Reads8 w A n p) (hn : n ≤ maxLen) (hnc : n ≤ c) (hp : isPage p = true)
    (hbad : p.headD 0 ≠ kind ∨ (p.headD 0 = kind ∧ rightK kind = false) ∨ (p.headD 0 = kind ∧ rightK kind = true ∧ 61 < manyOf p)) :
    Calls Try.prog 13 #[.int .u8 (kind.toNat : Int), .slice A n c] w fun e w' => e = .returned (.tuple #[.slice none 0 0, .int .i64 50]) ∧ Below w.heap.size w w' := by
  have HR := Lib.hid h; clear h
  have HP := Lib.hid hp; clear hp
  have hb123 : (bodyOf p).length = 123 := by
    have : p.length = 128 := by have h1 := HP.out; unfold isPage at h1; simp only [Bool.and_eq_true, decide_eq_true_eq] at h1; exact h1.1
    unfold bodyOf; simp; omega
  have HL := Lib.hid hb123; clear hb123
  have HBAD := Lib.hid hbad; clear hbad
  refine (callsIn_wide (n := 5)).1 ?_
  refine callsIn_of_wp_marks Try.func13 rfl trivial ?_ rfl
  simp only [Try.ntmps13, List.size_toArray, List.length_cons, List.length_nil, Nat.reduceAdd, Nat.reduceSub, Array.replicate_succ, Array.replicate_zero, List.push_toArray, List.append_toArray, List.nil_append, List.cons_append]
  have B2 := Lib.hid (Boxes.start w)
  gi_wp2
  refine ⟨trivial, ?_⟩
  gi_at_call 26
  refine (callsIn_wide.2 (open_yes A n c p _ (HR.out.keep B2.out.bw) hnc HP.out)).mono ?_
  rintro e w1 ⟨v, rfl, hF⟩
  obtain ⟨g, d, rfl, hg, hd, hdm, hM, hB⟩ := hF.open_ HL.out
  replace hM : Mem8 w1 g 0 123 (bodyOf p) := hM
  have B3 := Lib.hid (B2.out.keep hB)
  have h0 : w1.cell? ⟨g, 0, none⟩ = some (.int .u8 (manyOf p : Int)) := by
    have := hM.cell 0 (by have := HL.out; omega)
    rw [Nat.add_zero] at this
    rw [this]
    unfold manyOf
    rw [List.headD_eq_head?_getD, List.head?_eq_getElem?, List.getElem?_eq_getElem (by have := HL.out; omega)]
    rfl
  have hg1 : g < w1.heap.size := hM.lt
  clear hM hB hF
  have hm3 : manyOf p ≤ 255 := by
    unfold manyOf
    have := UInt8.toNat_lt ((bodyOf p).headD 0)
    omega
  generalize hmk : manyOf p = m at *
  generalize hkd : p.headD 0 = kd at *
  clear hmk hkd
  have c4 := B3.out.b4.cell
  have c5 := B3.out.b5.cell
  have f4 := B3.out.b4.frozen
  have f5 := B3.out.b5.frozen
  have l4 := B3.out.b4.lt
  have l5 := B3.out.b5.lt
  have n1 : ¬ w.heap.size = w1.heap.size := by omega
  have n2 : ¬ w.heap.size + 1 = w1.heap.size := by omega
  obtain ⟨s4, s5⟩ := set2 (.slice none 0 0) (.int .i64 50) B3.out.b4 B3.out.b5 (by omega)
  have S4 := Lib.hid s4; clear s4
  have S5 := Lib.hid s5; clear s5
  rcases HBAD.out with h1 | ⟨rfl, h1⟩ | ⟨rfl, h1, h2⟩
  · have hk : ((kd.toNat : Int) != (kind.toNat : Int)) = true := by
      simp; intro e; exact h1 (UInt8.toNat_inj.1 (by omega))
    clear h1 HBAD
    gi_wp2_with (refine ⟨trivial, ?_⟩)
    refine dec_leaves rfl rfl (S4.out.alloc _).cell (S5.out.alloc _).cell ⟨rfl, ?_⟩
    exact ((B3.out.bw.setCell (p := ⟨w.heap.size, 0, none⟩) (Nat.le_refl _) _).setCell (p := ⟨w.heap.size + 1, 0, none⟩) (by simp) _).alloc (by simp; omega) _
  · have HR1 := Lib.hid h1; clear h1 HBAD
    gi_wp2_with fail
    refine ⟨trivial, ?_⟩
    gi_at_call 23
    refine (callsIn_wide.2 (right_any kd _)).mono ?_
    rintro e w' ⟨rfl, rfl⟩
    rw [HR1.out]
    gi_wp2_with (refine ⟨trivial, ?_⟩)
    refine dec_leaves rfl rfl (S4.out.alloc _).cell (S5.out.alloc _).cell ⟨rfl, ?_⟩
    exact ((B3.out.bw.setCell (p := ⟨w.heap.size, 0, none⟩) (Nat.le_refl _) _).setCell (p := ⟨w.heap.size + 1, 0, none⟩) (by simp) _).alloc (by simp; omega) _
  · have HR1 := Lib.hid h1; clear h1 HBAD
    have h2' : (61 : Int) < (m : Int) := by omega
    gi_wp2_with fail
    refine ⟨trivial, ?_⟩
    gi_at_call 23
    refine (callsIn_wide.2 (right_any kd _)).mono ?_
    rintro e w' ⟨rfl, rfl⟩
    rw [HR1.out]
    gi_wp2_with (refine ⟨trivial, ?_⟩)
    refine dec_leaves rfl rfl (S4.out.alloc _).cell (S5.out.alloc _).cell ⟨rfl, ?_⟩
    exact ((B3.out.bw.setCell (p := ⟨w.heap.size, 0, none⟩) (Nat.le_refl _) _).setCell (p := ⟨w.heap.size + 1, 0, none⟩) (by simp) _).alloc (by simp; omega) _

end Go.Proofs.Ytcfamackncbndaa
