/-
  catchmentlaw01.awake: the chapter's examples stand.
-/
import Derived.Test.YtndhnhpiinkcgaaOctE
import Derived.Test.YtndhnhpiinkcgaaPage
namespace Go.Proofs.Ytndhnhpiinkcgaa
open Go.RowKit
set_option linter.unusedVariables false

theorem Blk8.new (w : World) (l : List UInt8) : Blk8 (w.alloc (.cells (bcells l).toArray 5)) w.heap.size l := heap_alloc_new w _

theorem Mem8.byte {w : World} {b n : Nat} {l : List UInt8} (h : Mem8 w b 0 n l) (i : Nat) (x : UInt8) (hx : l[i]? = some x) : w.cell? ⟨b, i, none⟩ = some (.int .u8 (x.toNat : Int)) ∧ w.frozen? ⟨b, i, none⟩ = false := by
  obtain ⟨hi, rfl⟩ := List.getElem?_eq_some_iff.1 hx
  have h1 := h.cell i hi
  have h2 := h.free i hi
  rw [Nat.zero_add] at h1 h2
  exact ⟨h1, h2⟩

/-- One byte written. -/
theorem Mem8.set {w : World} {b n : Nat} {l : List UInt8} (h : Mem8 w b 0 n l) (i : Nat) (x : UInt8) (hi : i < n) : Mem8 (w.setCell ⟨b, i, none⟩ (.int .u8 (x.toNat : Int))) b 0 n (l.set i x) := by
  have hl := h.len
  refine ⟨by simp [hl], by simpa [World.setCell] using h.lt, fun j hj => ?_, fun j hj => ?_⟩
  · have hj' : j < l.length := by simpa using hj
    rw [Nat.zero_add]
    by_cases e : i = j
    · subst e
      rw [List.getElem_set_self]
      have h1 := h.cell i hj'
      rw [Nat.zero_add] at h1
      exact World.cell?_setCell_same' _ _ _ (by rw [h1]; rfl)
    · rw [List.getElem_set_ne e, World.cell?_setCell_other w ⟨b, i, none⟩ ⟨b, j, none⟩ _ (fun e2 => by injection e2 with _ e3; exact e e3)]
      have h1 := h.cell j hj'
      rwa [Nat.zero_add] at h1
  · rw [World.frozen?_setCell]
    exact h.free j (by simpa using hj)

theorem Fresh8.open_ {w w' : World} {v : Value} {l : List UInt8} {n : Nat} (h : Fresh8 w w' v l) (hl : l.length = n) : ∃ g c, v = .slice (some ⟨g, 0, none⟩) n c ∧ w.heap.size ≤ g ∧ n ≤ c ∧ c ≤ maxLen ∧ Mem8 w' g 0 n l ∧ Below w.heap.size w w' := by
  subst hl
  exact h

theorem succ_ne (x : UInt8) : x + 1 ≠ x := by
  intro e
  have h := congrArg UInt8.toNat e
  have := UInt8.toNat_lt x
  rw [UInt8.toNat_add] at h
  have e1 : (1 : UInt8).toNat = 1 := rfl
  rw [e1] at h
  omega

set_option maxHeartbeats 1000000 in
set_option maxRecDepth 100000 in
theorem awake_any (w : World) : Calls Try.prog 9 #[] w fun e w' => e = .returned (.bool true) ∧ Below w.heap.size w w' := by
  go_enter Try.func9, Try.ntmps9
  go_wp2_with fail
  have hm0 : Mem8 (w.alloc (.cells #[.int .u8 0, .int .u8 0, .int .u8 0] 5)) w.heap.size 0 3 [0, 0, 0] := (Blk8.new w [0, 0, 0]).mem
  have hb0 : Below w.heap.size w (w.alloc (.cells #[.int .u8 0, .int .u8 0, .int .u8 0] 5)) := (Below.refl _ _).alloc (Nat.le_refl _) _
  have M0 := Lib.hid hm0; clear hm0
  have B0 := Lib.hid hb0; clear hb0
  refine (put_yes' w.heap.size 0 3 3 [0, 0, 0] 1 2 258 _ M0.out (by simp only [maxLen]; omega) (by omega) (by omega) (by omega) (by omega) (by omega)).mono ?_
  rintro e w1 ⟨rfl, hw1, hm1⟩
  have e1 : List.take 1 [0, 0, 0] ++ be 258 2 ++ List.drop (1 + 2) [0, 0, 0] = ([0, 1, 2] : List UInt8) := by decide
  rw [e1] at hm1
  have M1 := Lib.hid hm1; clear hm1 e1 M0
  have B1 := Lib.hid (B0.out.trans (hw1.below (Nat.le_refl _))); clear hw1 B0
  go_wp2_with fail
  refine (put_great _ 3 3 1 2 65536 _ (by simp only [maxLen]; omega) (by omega) (by omega) (by omega) (by omega) (by omega)).mono ?_
  rintro e w' ⟨rfl, rfl⟩
  go_wp2_with fail
  refine (put_small _ 3 3 2 2 1 _ (by simp only [maxLen]; omega) (by omega)).mono ?_
  rintro e w' ⟨rfl, rfl⟩
  go_wp2_with fail
  have M2 := Lib.hid (M1.out.keep ((Below.refl _ w1).alloc (Nat.le_refl _) (.cells #[.int .u8 0, .int .u8 1, .int .u8 2] 5)))
  have B2 := Lib.hid (B1.out.alloc (by have := B1.out.size; exact this) (.cells #[.int .u8 0, .int .u8 1, .int .u8 2] 5))
  refine (equal_any _ _ 3 3 3 3 [0, 1, 2] [0, 1, 2] _ M2.out.reads (Blk8.new w1 [0, 1, 2]).mem.reads).mono ?_
  rintro e w' ⟨rfl, rfl⟩
  rw [show same8 [0, 1, 2] [0, 1, 2] = true from by decide]
  clear M1 B1
  go_wp2_with fail
  refine (get_yes w.heap.size 0 3 3 [0, 1, 2] 0 2 _ M2.out.reads (by simp only [maxLen]; omega) (by omega) (by omega) (by omega) (by omega)).mono ?_
  rintro e w' ⟨rfl, rfl⟩
  rw [show num8 ((([0, 1, 2] : List UInt8).drop 0).take 2) = 1 from by decide]
  go_wp2_with fail
  refine (get_no _ 3 3 2 2 _ (by simp only [maxLen]; omega) (by omega)).mono ?_
  rintro e w' ⟨rfl, rfl⟩
  clear M2
  obtain ⟨W2, hW2⟩ : ∃ W2 : World, W2 = w1.alloc (.cells #[.int .u8 0, .int .u8 1, .int .u8 2] 5) := ⟨_, rfl⟩
  rw [← hW2] at B2 ⊢
  clear hW2
  go_wp2_with fail
  have B3 := Lib.hid (B2.out.alloc B2.out.size (.cells #[.int .u8 9] 5))
  refine (seal_any _ 1 1 4 [9] _ (Blk8.new W2 [9]).mem.reads (by omega)).mono ?_
  rintro e w3 ⟨v, rfl, hF⟩
  obtain ⟨g, c, rfl, hg, hc, hcm, hM, hB⟩ := hF.open_ (pageOf_length 4 [9] (by decide))
  have B4 := Lib.hid (B3.out.trans (hB.mono B3.out.size))
  have hgw : w.heap.size ≤ g := Nat.le_trans B3.out.size hg
  have M3 := Lib.hid hM; clear hM hB hF B2 B3 hg
  have c0 : w3.cell? ⟨g, 0, none⟩ = some (.int .u8 4) := (M3.out.byte 0 4 rfl).1
  have c1 : w3.cell? ⟨g, 1, none⟩ = some (.int .u8 9) := (M3.out.byte 1 9 rfl).1
  have c2 : w3.cell? ⟨g, 2, none⟩ = some (.int .u8 0) := (M3.out.byte 2 0 rfl).1
  go_wp2_with fail
  clear c0 c1 c2
  refine (open_yes _ 128 c _ _ M3.out.reads hc (pageOf_isPage 4 [9] (by decide))).mono ?_
  rintro e w4 ⟨v, rfl, hF⟩
  rw [show (((pageOf 4 [9]).headD 0).toNat : Int) = 4 from rfl]
  obtain ⟨g2, d, rfl, hg2, hd, hdm, hM, hB⟩ := hF.open_ (n := 123) (by rw [List.length_take, List.length_drop, pageOf_length 4 [9] (by decide)]; rfl)
  have M4 := Lib.hid (M3.out.keep hB)
  have hg2' : g ≠ g2 := by have := M3.out.lt; omega
  have hg2w : w.heap.size ≤ g2 := Nat.le_trans B4.out.size hg2
  have B5 := Lib.hid (B4.out.trans (hB.mono B4.out.size))
  have N4 := Lib.hid hM; clear hM hB hF B4 M3 hg2
  obtain ⟨x, hx⟩ : ∃ x, (pageOf 4 [9])[127]? = some x := ⟨_, List.getElem?_eq_getElem (by rw [pageOf_length 4 [9] (by decide)]; omega)⟩
  obtain ⟨c127, f127⟩ := M4.out.byte 127 x hx
  have hxl := UInt8.toNat_lt x
  go_wp2_with fail
  have ev : Value.int .u8 (((x.toNat : Int) + 1) % 256) = .int .u8 ((x + 1).toNat : Int) := by
    rw [UInt8.toNat_add, show (1 : UInt8).toNat = 1 from rfl]; simp
  rw [ev]
  clear ev c127 f127
  have M5 := Lib.hid (M4.out.set 127 (x + 1) (by omega))
  have N5 := Lib.hid ((Wrote.set w4 g 127 (.int .u8 ((x + 1).toNat : Int))).far N4.out (.inl (Ne.symm hg2')))
  have B6 := Lib.hid (B5.out.setCell (p := ⟨g, 127, none⟩) hgw (.int .u8 ((x + 1).toNat : Int)))
  clear M4 N4 B5
  have hno : isPage ((pageOf 4 [9]).set 127 (x + 1)) = false := by
    refine isPage_set _ 127 _ (by rw [pageOf_length 4 [9] (by decide)]; omega) (pageOf_isPage 4 [9] (by decide)) ?_
    have := (List.getElem?_eq_some_iff.1 hx).2
    rw [this]
    exact succ_ne x
  have Hno := Lib.hid hno; clear hno hx
  refine (open_no _ 128 c _ _ M5.out.reads (by simp only [maxLen]; omega) hc Hno.out).mono ?_
  rintro e w' ⟨rfl, q, rfl⟩
  obtain ⟨W5, hW5⟩ : ∃ W5 : World, W5 = (w4.setCell ⟨g, 127, none⟩ (.int .u8 ((x + 1).toNat : Int))).drewN q := ⟨_, rfl⟩
  have N6 : Hid (Mem8 W5 g2 0 123 (((pageOf 4 [9]).drop 1).take 123)) := by rw [hW5]; exact Lib.hid (N5.out.drewN q)
  have B7 : Hid (Below w.heap.size w W5) := by rw [hW5]; exact Lib.hid (B6.out.trans ⟨rfl, rfl, rfl, Nat.le_refl _, fun _ _ => rfl⟩)
  rw [← hW5]
  clear hW5 M5 N5 B6 Hno
  go_wp2_with fail
  refine (sum_any none 0 0 [] _ (Reads8.nil _ _) (by simp only [maxLen]; omega)).mono ?_
  rintro e w' ⟨rfl, rfl⟩
  rw [show sum8 [] = 1 from by decide]
  go_wp2_with fail
  have N7 := Lib.hid (N6.out.keep ((Below.refl _ W5).alloc (Nat.le_refl _) (.cells #[.int .u8 0] 5)))
  have B8 := Lib.hid (B7.out.alloc B7.out.size (.cells #[.int .u8 0] 5))
  have rd : Reads8 (W5.alloc (.cells #[.int .u8 0] 5)) (some ⟨W5.heap.size, 0, none⟩) 1 [0] := (Blk8.new W5 [0]).mem.reads
  refine (sum_any _ 1 1 [0] _ rd (by simp only [maxLen]; omega)).mono ?_
  rintro e w' ⟨rfl, rfl⟩
  rw [show sum8 [0] = 38 from by decide]
  clear N6 B7 rd
  obtain ⟨W6, hW6⟩ : ∃ W6 : World, W6 = W5.alloc (.cells #[.int .u8 0] 5) := ⟨_, rfl⟩
  rw [← hW6] at N7 B8 ⊢
  clear hW6
  go_wp2_with fail
  have N8 := Lib.hid (N7.out.keep ((Below.refl _ W6).alloc (Nat.le_refl _) (.cells #[.int .u8 0, .int .u8 0] 5)))
  have B9 := Lib.hid (B8.out.alloc B8.out.size (.cells #[.int .u8 0, .int .u8 0] 5))
  have rd : Reads8 (W6.alloc (.cells #[.int .u8 0, .int .u8 0] 5)) (some ⟨W6.heap.size, 0, none⟩) 2 [0, 0] := (Blk8.new W6 [0, 0]).mem.reads
  refine (sum_any _ 2 2 [0, 0] _ rd (by simp only [maxLen]; omega)).mono ?_
  rintro e w' ⟨rfl, rfl⟩
  rw [show sum8 [0, 0] = 1185 from by decide]
  clear N7 B8 rd
  obtain ⟨W7, hW7⟩ : ∃ W7 : World, W7 = W6.alloc (.cells #[.int .u8 0, .int .u8 0] 5) := ⟨_, rfl⟩
  rw [← hW7] at N8 B9 ⊢
  clear hW7
  have c0 : W7.cell? ⟨g2, 0, none⟩ = some (.int .u8 9) := (N8.out.byte 0 9 rfl).1
  have c1 : W7.cell? ⟨g2, 1, none⟩ = some (.int .u8 0) := (N8.out.byte 1 0 rfl).1
  go_wp2_with fail
  go_ret
  exact ⟨rfl, B9.out⟩

end Go.Proofs.Ytndhnhpiinkcgaa
