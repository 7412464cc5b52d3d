/-
  The document's Put, Seal, Open.
-/
import Derived.Test.YtndhnhpiinkcgaaOctAwake
import Derived.Test.YtndhnhpiinkcgaaPageB
import Derived.RangeFuncBox
namespace Go.Proofs.Ytndhnhpiinkcgaa
open Go.RowKit
set_option linter.unusedVariables false

theorem own_shape {w : World} {base n : Nat} {e : TypeId} {v : Value} {xs : List Value} (h : w.ownsRow base e 1 v n xs) (hv : v ≠ .slice none 0 0) : ∃ g cap, v = .slice (some ⟨g, 0, none⟩) n cap ∧ base ≤ g ∧ n ≤ cap ∧ cap ≤ maxLen ∧ g < w.heap.size := by
  rcases h.2 with ⟨rfl, _⟩ | ⟨g, cap, cur, rfl, hg, hh, hn, hm, _⟩
  · exact absurd rfl hv
  · exact ⟨g, cap, rfl, hg, hn, hm, (Array.getElem?_eq_some_iff.1 hh).1⟩

theorem Mem8.of_own {w : World} {g cap base : Nat} {l : List UInt8} {e : TypeId} (h : w.ownsRow base e 1 (.slice (some ⟨g, 0, none⟩) l.length cap) l.length (bcells l)) : Mem8 w g 0 l.length l := by
  rcases h.2 with ⟨e, _⟩ | ⟨g', cap', cur, e, hg, hh, hn, hm, hs, ht⟩
  · cases e
  · injection e with e1 _ _
    injection e1 with e1
    injection e1 with e1
    subst e1
    refine Mem8.of_blk hh rfl (fun j hj => ?_) (.inr (by simp))
    have e1 : cur.toList[j]? = (bcells l)[j]? := by rw [← ht, List.getElem?_take]; simp [hj]
    rw [Nat.zero_add, ← Array.getElem?_toList, e1, bcells_get hj]

set_option maxHeartbeats 1000000 in
/-- Put: the places are not all there, or the number has more bytes. -/
theorem rput_no (A : Option Addr) (n c : Nat) (at_ size : Int) (N : Nat) (l : List UInt8) (w : World) (h : Reads8 w A n l) (hn : n ≤ 300) (hN64 : N < 18446744073709551616)
    (hno : ¬ (1 ≤ size ∧ size ≤ 8 ∧ 0 ≤ at_ ∧ at_ ≤ n - size) ∨ ∃ s : Nat, size = (s : Int) ∧ 1 ≤ size ∧ size ≤ 8 ∧ 0 ≤ at_ ∧ at_ ≤ n - size ∧ ¬ N < 256 ^ s) :
    Calls Try.prog 21 #[.slice A n c, .int .i64 at_, .int .i64 size, .int .u64 (N : Int)] w fun e w' => ∃ v, e = .returned (.tuple #[v, .bool false]) ∧ Fresh8 w w' v l := by
  have hl := Lib.hid h.1
  have HR := Lib.hid h; clear h
  have HN64 := Lib.hid hN64; clear hN64
  rcases hno with hno | ⟨s, rfl, hs1, hs8, ha0, ha1, hN⟩
  · have HNO := Lib.hid hno; clear hno
    go_enter Try.func21, Try.ntmps21
    go_wp2_with (at_builtin; refine wpList_append8 rfl _ _ 22 rfl w.heap.size 5 Try.underlying22 u8info _ 0 [] rfl (World.ownsRow_lit w #[] 0 (Nat.le_refl _) (Nat.zero_le _) rfl) A n c l rfl (HR.out.keep ((Below.refl _ _).alloc (Nat.le_refl _) _)) (by omega) (by simp) ?_)
    intro v' w1 hown hgrow hnil hat
    have hb : Below w.heap.size w w1 := ((Below.refl _ _).alloc (Nat.le_refl _) _).grown hgrow (by simp) (by intro k hk; simp [Value.ownBlock] at hk; omega)
    have hne : v' ≠ .slice none 0 0 := by simpa using hnil
    have hF : Fresh8 w w1 v' l := Fresh8.of_own (e := 5) (by rw [hl.out]; simpa using hown) hne hb
    have HF := Lib.hid hF; clear hF hown hgrow hnil hat hb hne
    go_wp2_with fail
    refine (there_no A n c at_ size _ (by simp only [maxLen]; omega) HNO.out).mono ?_
    rintro e w' ⟨rfl, rfl⟩
    go_wp2_with fail
    go_ret2
    exact ⟨v', rfl, HF.out⟩
  · obtain ⟨k, rfl⟩ : ∃ k : Nat, at_ = (k : Int) := ⟨at_.toNat, by omega⟩
    have HN := Lib.hid hN; clear hN
    go_enter Try.func21, Try.ntmps21
    go_wp2_with (at_builtin; refine wpList_append8 rfl _ _ 22 rfl w.heap.size 5 Try.underlying22 u8info _ 0 [] rfl (World.ownsRow_lit w #[] 0 (Nat.le_refl _) (Nat.zero_le _) rfl) A n c l rfl (HR.out.keep ((Below.refl _ _).alloc (Nat.le_refl _) _)) (by omega) (by simp) ?_)
    intro v' w1 hown hgrow hnil hat
    have hb : Below w.heap.size w w1 := ((Below.refl _ _).alloc (Nat.le_refl _) _).grown hgrow (by simp) (by intro k hk; simp [Value.ownBlock] at hk; omega)
    have hne : v' ≠ .slice none 0 0 := by simpa using hnil
    have hF : Fresh8 w w1 v' l := Fresh8.of_own (e := 5) (by rw [hl.out]; simpa using hown) hne hb
    obtain ⟨g, d, rfl, hg, hd, hdm, hM, hB⟩ := hF.open_ hl.out
    have HM := Lib.hid hM
    have HB := Lib.hid hB
    clear hF hown hgrow hnil hat hb hne hM hB
    go_wp2_with fail
    refine (there_yes A n c k s _ (by simp only [maxLen]; omega) hs1 hs8 ha0 ha1).mono ?_
    rintro e w' ⟨rfl, rfl⟩
    go_wp2_with fail
    refine (rbytes_any N s _ (by omega) HN64.out).mono ?_
    rintro e w2 ⟨v, rfl, hF⟩
    have hdec : decide (N / 256 ^ s = 0) = false := by
      have h1 := HN.out
      have : 0 < N / 256 ^ s := Nat.div_pos (by omega) (Nat.pow_pos (by omega))
      exact decide_eq_false (by omega)
    rw [hdec]
    have HM2 := Lib.hid (HM.out.keep hF.below)
    have HB2 := Lib.hid (HB.out.trans (hF.below.mono HB.out.size))
    clear hdec hF
    go_wp2_with fail
    go_ret2
    exact ⟨.slice (some ⟨g, 0, none⟩) n d, rfl, g, d, by rw [hl.out], hg, by rw [hl.out]; exact hd, hdm, by rw [hl.out]; exact HM2.out, HB2.out⟩


set_option maxHeartbeats 1000000 in
/-- Put: the number stands there. -/
theorem rput_yes (b o n c : Nat) (k s N : Nat) (l : List UInt8) (w : World) (h : Reads8 w (some ⟨b, o, none⟩) n l) (hn : n ≤ 300) (hs1 : 1 ≤ s) (hs8 : s ≤ 8) (hfit : k + s ≤ n) (hN : N < 256 ^ s) (hN64 : N < 18446744073709551616) :
    Calls Try.prog 21 #[.slice (some ⟨b, o, none⟩) n c, .int .i64 (k : Int), .int .i64 (s : Int), .int .u64 (N : Int)] w fun e w' => ∃ v, e = .returned (.tuple #[v, .bool true]) ∧ Fresh8 w w' v (l.take k ++ be N s ++ l.drop (k + s)) := by
  have hl := Lib.hid h.1
  have HR := Lib.hid h; clear h
  have HN64 := Lib.hid hN64; clear hN64
  have HN := Lib.hid hN; clear hN
  go_enter Try.func21, Try.ntmps21
  go_wp2_with (at_builtin; refine wpList_append8 rfl _ _ 22 rfl w.heap.size 5 Try.underlying22 u8info _ 0 [] rfl (World.ownsRow_lit w #[] 0 (Nat.le_refl _) (Nat.zero_le _) rfl) (some ⟨b, o, none⟩) n c l rfl (HR.out.keep ((Below.refl _ _).alloc (Nat.le_refl _) _)) (by omega) (by simp) ?_)
  intro v' w1 hown hgrow hnil hat
  have hb : Below w.heap.size w w1 := ((Below.refl _ _).alloc (Nat.le_refl _) _).grown hgrow (by simp) (by intro k hk; simp [Value.ownBlock] at hk; omega)
  have hne : v' ≠ .slice none 0 0 := by simpa using hnil
  have hF : Fresh8 w w1 v' l := Fresh8.of_own (e := 5) (by rw [hl.out]; simpa using hown) hne hb
  obtain ⟨g, d, rfl, hg, hd, hdm, hM, hB⟩ := hF.open_ hl.out
  have HM := Lib.hid hM
  have HB := Lib.hid hB
  clear hF hown hgrow hnil hat hb hne hM hB
  go_wp2_with fail
  refine (there_yes (some ⟨b, o, none⟩) n c k s _ (by simp only [maxLen]; omega) (by omega) (by omega) (by omega) (by omega)).mono ?_
  rintro e w' ⟨rfl, rfl⟩
  go_wp2_with fail
  refine (rbytes_any N s _ (by omega) HN64.out).mono ?_
  rintro e w2 ⟨v, rfl, hF⟩
  have hdec : decide (N / 256 ^ s = 0) = true := decide_eq_true (Nat.div_eq_of_lt HN.out)
  rw [hdec]
  obtain ⟨gb, cb, rfl, hgb, hcb, hcbm, hM2, hB2⟩ := hF.open_ (be_length N s)
  have HM2 := Lib.hid (HM.out.keep hB2)
  have HB2 := Lib.hid (HB.out.trans (hB2.mono HB.out.size))
  have HBY := Lib.hid hM2
  have hgg : gb ≠ g := by have := HM.out.lt; omega
  have hlen := Lib.hid (be_length N s)
  clear hdec hF hM2 hB2 HM HB
  have HDM := Lib.hid hdm; clear hdm
  go_wp2_with fail
  go_loopw [13] (fun i wr => ∃ j : Nat, j ≤ s ∧ i = .int .i64 j ∧ Wrote w2 wr g k (k + j) ∧ (∀ i, i < j → wr.cell? ⟨g, k + i, none⟩ = some (.int .u8 (((be N s).getD i 0).toNat : Int)))) (fun i _ => s - (intOf i).toNat)
  case atStart => exact ⟨0, Nat.zero_le _, rfl, Wrote.refl _ _ _ _, fun j hj => absurd hj (Nat.not_lt_zero _)⟩
  case round =>
    obtain ⟨j, hj, rfl, hwr, hdone⟩ := hrel
    have HW := Lib.hid hwr; clear hwr
    have HD := Lib.hid hdone; clear hdone
    by_cases hlt : j < s
    · have hf : wr.frozen? ⟨g, k + j, none⟩ = false := by
        rw [HW.out.frz]; have := HM2.out.free (k + j) (by have := hl.out; omega); simpa using this
      have hx : (be N s)[j]? = some ((be N s).getD j 0) := by rw [List.getD_eq_getElem?_getD, List.getElem?_eq_getElem (by have := hlen.out; omega)]; rfl
      have hcb := ((HW.out.far HBY.out (.inl hgg)).byte j _ hx).1
      obtain ⟨x, hc⟩ : ∃ x : UInt8, wr.cell? ⟨g, k + j, none⟩ = some (.int .u8 (x.toNat : Int)) := by
        refine ⟨l[k + j]'(by have := hl.out; omega), ?_⟩
        rw [HW.out.cell _ (by omega)]
        have := HM2.out.cell (k + j) (by have := hl.out; omega)
        rwa [Nat.zero_add] at this
      generalize hB : (be N s).getD j 0 = y at *
      have HY := Lib.hid hB; clear hB hx
      go_wp2
      go_roundw
      case rel =>
        refine ⟨j + 1, by omega, by go_num, (HW.out.mono (by omega) (by omega)).trans ((Wrote.set _ _ _ _).mono (by omega) (by omega)), ?_⟩
        intro i hi
        by_cases e : i = j
        · subst e
          rw [HY.out]
          exact World.cell?_setCell_same' _ _ _ (by rw [hc]; rfl)
        · rw [World.cell?_setCell_other wr ⟨g, k + j, none⟩ ⟨g, k + i, none⟩ _ (fun e2 => by injection e2 with _ e3; omega)]
          exact HD.out i (by omega)
      case measure => simp [intOf]; omega
    · have hjs : j = s := by omega
      subst hjs
      go_wp2
      go_ret2
      have hm : Mem8 wr g (0 + k) j (be N j) := by
        refine ⟨be_length _ _, by rw [HW.out.size]; exact HM2.out.lt, fun i hi => ?_, fun i hi => ?_⟩
        · have := HD.out i (by rwa [be_length] at hi)
          rw [Nat.zero_add, this]
          rw [List.getD_eq_getElem?_getD, List.getElem?_eq_getElem hi]
          rfl
        · rw [HW.out.frz]
          have := HM2.out.free (k + i) (by have := hl.out; rw [be_length] at hi; omega)
          simpa using this
      have hw0 : Wrote w2 wr g (0 + k) (0 + k + j) := HW.out.mono (by omega) (by omega)
      have hall := hw0.splice HM2.out hm hfit
      have hlen2 : (l.take k ++ be N j ++ l.drop (k + j)).length = n := by have := hl.out; simp [be_length]; omega
      exact ⟨.slice (some ⟨g, 0, none⟩) n d, rfl, g, d, by rw [hlen2], hg, by rw [hlen2]; exact hd, HDM.out, by rw [hlen2]; exact hall, HB2.out.trans (HW.out.below hg)⟩

end Go.Proofs.Ytndhnhpiinkcgaa
