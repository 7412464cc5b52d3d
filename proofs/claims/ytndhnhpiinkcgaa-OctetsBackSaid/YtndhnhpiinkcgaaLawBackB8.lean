/-
  OctetsBack: the walk where the number is put (eight bytes).
-/
import Derived.Test.YtndhnhpiinkcgaaLawBackA
namespace Go.Proofs.Ytndhnhpiinkcgaa
open Go.RowKit
set_option linter.unusedVariables false

set_option maxHeartbeats 4000000 in
set_option maxRecDepth 100000 in
/-- The number is put, and got. -/
theorem back_fits_8e (b o n c : Nat) (at_ s N : Nat) (l : List UInt8) (w : World) (h : Reads8 w (some ⟨b, o, none⟩) n l) (hnc : n ≤ c) (hcm : c ≤ maxLen) (h300 : n ≤ 300) (hs1 : 1 ≤ s) (hs8 : s ≤ 8) (hfit : at_ + s ≤ n) (hN : N < 256 ^ s) (hq8 : ((s : Int) == 8) = true) (hce : c = at_ + s) :
    Calls Try.prog 4 #[.slice (some ⟨b, o, none⟩) n c, .int .i64 (at_ : Int), .int .i64 (s : Int), .int .u64 (N : Int)] w fun e w' => e = .returned (.bool true) ∧ Below w.heap.size w w' := by
  have hl := Lib.hid h.1
  have HR := Lib.hid h; clear h
  have HN := Lib.hid hN; clear hN
  have HCM := Lib.hid hcm
  unfold maxLen at hcm
  have hq : s ≠ 8 → decide ((N : Int) < IntKind.u64.wrap (2 ^ (8 * s))) = true := by
    intro h8
    have hpw : (2 : Int) ^ (8 * s) = ((256 ^ s : Nat) : Int) := by rw [Int.pow_mul]; simp
    have hlt7 : 256 ^ s ≤ 256 ^ 7 := Nat.pow_le_pow_right (by omega) (by omega)
    rw [hpw, IntKind.wrap_u64']
    have h1 := HN.out
    have h256 : (256 : Nat) ^ 7 = 72057594037927936 := rfl
    rw [h256] at hlt7
    generalize 256 ^ s = X at h1 hlt7 ⊢
    exact decide_eq_true (by omega)
  have HQ := Lib.hid hq; clear hq
  have HCE := Lib.hid hce; clear hce
  go_enter Try.func4, Try.ntmps4
  go_wp2_with fail
  refine (again_any _ n c l _ HR.out (by simp only [maxLen]; omega)).mono ?_
  rintro e w1 ⟨v, rfl, hF⟩
  obtain ⟨g, d, rfl, hg, hd, hdm, hM, hB⟩ := hF.open_ hl.out
  have M1 := Lib.hid hM
  have B1 := Lib.hid hB
  have R1 := Lib.hid (HR.out.keep hB)
  have hgw : w.heap.size ≤ g := hg
  have hbg : b ≠ g := by
    obtain ⟨b', o', e, hlt, _⟩ := HR.out.2 (by omega)
    injection e with e
    injection e with e1 e2
    omega
  clear hM hB hF HR
  unfold maxLen at hdm
  go_wp2_with fail
  refine (put_yes' g 0 n d l at_ s N _ M1.out (by simp only [maxLen]; omega) hd (by omega) (by omega) (by omega) HN.out).mono ?_
  rintro e w2 ⟨rfl, hw2, hm2⟩
  have M2 := Lib.hid hm2
  have R2 := Lib.hid (hw2.farR R1.out (by intro a e; injection e with e; subst e; exact hbg))
  have B2 := Lib.hid (B1.out.trans (hw2.below hgw))
  clear hw2 hm2 M1 B1 R1
  have cut1 : ((l.take at_ ++ be N s ++ l.drop (at_ + s)).drop at_).take s = be N s := by
    have hlt : (l.take at_).length = at_ := by have := hl.out; simp; omega
    rw [List.append_assoc, List.drop_append_of_le_length (by omega), List.drop_of_length_le (by omega), List.nil_append, List.take_append_of_le_length (by rw [be_length]; omega), List.take_of_length_le (by rw [be_length]; omega)]
  have Cut1 := Lib.hid cut1; clear cut1
  have hnum : num8 (be N s) = N := by rw [num8_be]; exact Nat.mod_eq_of_lt HN.out
  have Hnum := Lib.hid hnum; clear hnum
  have hla : (l.take at_).length = at_ := by have := hl.out; simp; omega
  have r1 : Reads8 w2 (some ⟨g, 0, none⟩) at_ (l.take at_) := by
    have := (M2.out.sub 0 at_ (by omega)).reads
    rw [List.drop_zero, List.append_assoc, List.take_append_of_le_length (by omega), List.take_of_length_le (by omega)] at this
    exact this
  have r2 : Reads8 w2 (some ⟨b, o, none⟩) at_ (l.take at_) := by
    have := R2.out.sub 0 at_ (by omega) (by omega)
    rw [List.drop_zero] at this
    exact this
  have r3 : Reads8 w2 (some ⟨g, at_ + s, none⟩) (n - (at_ + s)) (l.drop (at_ + s)) := by
    have := (M2.out.sub (at_ + s) (n - (at_ + s)) (by omega)).reads
    have e1 : (l.take at_ ++ be N s ++ l.drop (at_ + s)).drop (at_ + s) = l.drop (at_ + s) := by
      have e2 : (l.take at_ ++ be N s).length = at_ + s := by rw [List.length_append, hla, be_length]
      rw [List.drop_append_of_le_length (by omega), List.drop_of_length_le (by omega), List.nil_append]
    rw [e1, List.take_of_length_le (by have := hl.out; simp; omega), Nat.zero_add] at this
    exact this
  have r4 : Reads8 w2 (some ⟨b, o + (at_ + s), none⟩) (n - (at_ + s)) (l.drop (at_ + s)) := by
    have := R2.out.sub (at_ + s) (n - (at_ + s)) (by omega) (by omega)
    rw [List.take_of_length_le (by have := hl.out; simp; omega)] at this
    exact this
  have r5 : ∀ A : Option Addr, n = at_ + s → Reads8 w2 A (n - (at_ + s)) (l.drop (at_ + s)) := by
    intro A e
    rw [List.drop_of_length_le (by have := hl.out; omega), show n - (at_ + s) = 0 by omega]
    exact Reads8.nil _ _
  have Q1 := Lib.hid r1
  have Q2 := Lib.hid r2
  have Q3 := Lib.hid r3
  have Q4 := Lib.hid r4
  have Q5 := Lib.hid r5
  clear r1 r2 r3 r4 r5 hla
  have hd8 : decide ((s : Int) ≤ (n : Int) - (at_ : Int)) = true := decide_eq_true (by omega)
  have hse : decide ((at_ : Int) + s ≤ (n : Int)) = true := decide_eq_true (by omega)
  have e1 : ∀ W : World, W.heap = w2.heap → Calls Try.prog 15 #[.slice (some ⟨g, 0, none⟩) at_ d, .slice (some ⟨b, o, none⟩) at_ c] W fun e w' => e = .returned (.bool true) ∧ W = w' := by
    intro W hW
    have := equal_any (some ⟨g, 0, none⟩) (some ⟨b, o, none⟩) at_ at_ d c _ _ W (reads_heap Q1.out hW) (reads_heap Q2.out hW)
    rwa [show same8 (l.take at_) (l.take at_) = true from same8_iff.2 rfl] at this
  have e2 : ∀ W : World, W.heap = w2.heap → ∀ (A1 A2 : Option Addr) (c1 c2 : Nat), Reads8 w2 A1 (n - (at_ + s)) (l.drop (at_ + s)) → Reads8 w2 A2 (n - (at_ + s)) (l.drop (at_ + s)) → Calls Try.prog 15 #[.slice A1 (n - (at_ + s)) c1, .slice A2 (n - (at_ + s)) c2] W fun e w' => e = .returned (.bool true) ∧ W = w' := by
    intro W hW A1 A2 c1 c2 h1 h2
    have := equal_any A1 A2 (n - (at_ + s)) (n - (at_ + s)) c1 c2 _ _ W (reads_heap h1 hW) (reads_heap h2 hW)
    rwa [show same8 (l.drop (at_ + s)) (l.drop (at_ + s)) = true from same8_iff.2 rfl] at this
  have E1 := Lib.hid e1
  have E2 := Lib.hid e2
  clear e1 e2 Q1 Q2
  have i0 : (0 : Int) ≤ (at_ : Int) := by omega
  have i1 : (at_ : Int) ≤ (d : Int) := by omega
  have i2 : (at_ : Int) ≤ (c : Int) := by omega
  have i3 : (at_ : Int) + s ≤ (n : Int) := by omega
  have i4 : (0 : Int) ≤ (at_ : Int) + s := by omega
  have i5 : IntKind.i64.wrap ((at_ : Int) + s) = (at_ : Int) + s := IntWalk.i64_in _ (by omega)
  have i6 : ((at_ : Int) + s).toNat = at_ + s := by omega
  have I5 := Lib.hid i5; clear i5
  have I6 := Lib.hid i6; clear i6
  have done : ∀ W w3 : World, Below w.heap.size w W → Below W.heap.size W w3 → Below w.heap.size w w3 := fun W w3 h1 h2 => h1.trans (h2.mono h1.size)
  have DONE := Lib.hid done; clear done
  have hca := eq_true HCE.out
  rcases (Classical.em (d = at_ + s)) with hda | hda
  · have HDA := Lib.hid hda
    replace hda := eq_true hda
    go_wp2_with fail
    refine (get_yes g 0 n _ _ at_ s _ M2.out.reads (by simp only [maxLen]; omega) hd (by omega) (by omega) (by omega)).mono ?_
    rintro e w' ⟨rfl, rfl⟩
    rw [Cut1.out, Hnum.out]
    go_wp2_with fail
    have i5 := I5.out
    have i6 := I6.out
    go_region_held3 (fun _ => True) (trivial)
      (first
        | (go_at_call 15; (with_reducible refine (E1.out _ ?_).mono ?_); rfl; rintro e w' ⟨rfl, rfl⟩)
        | (go_at_call 15; (with_reducible refine (E2.out _ ?_ _ _ _ _ ?_ ?_).mono ?_); rfl; (first | exact Q3.out | exact Q5.out _ (by have := HDA.out; omega) | exact Q5.out _ (by have := HCE.out; omega)); (first | exact Q4.out | exact Q5.out _ (by have := HDA.out; omega) | exact Q5.out _ (by have := HCE.out; omega)); rintro e w' ⟨rfl, rfl⟩)
        | (go_at_call 9; refine (awake_any _).mono ?_; rintro e w' ⟨rfl, hb⟩))
    go_wp2_with fail
    go_ret
    exact ⟨rfl, DONE.out _ _ (by first | exact B2.out.drew | exact below_dN B2.out _) hb⟩
  · have HDA := Lib.hid hda
    go_wp2_with fail
    refine (get_yes g 0 n _ _ at_ s _ M2.out.reads (by simp only [maxLen]; omega) hd (by omega) (by omega) (by omega)).mono ?_
    rintro e w' ⟨rfl, rfl⟩
    rw [Cut1.out, Hnum.out]
    go_wp2_with fail
    have i5 := I5.out
    have i6 := I6.out
    go_region_held3 (fun _ => True) (trivial)
      (first
        | (go_at_call 15; (with_reducible refine (E1.out _ ?_).mono ?_); rfl; rintro e w' ⟨rfl, rfl⟩)
        | (go_at_call 15; (with_reducible refine (E2.out _ ?_ _ _ _ _ ?_ ?_).mono ?_); rfl; (first | exact Q3.out | exact Q5.out _ (by have := HDA.out; omega) | exact Q5.out _ (by have := HCE.out; omega)); (first | exact Q4.out | exact Q5.out _ (by have := HDA.out; omega) | exact Q5.out _ (by have := HCE.out; omega)); rintro e w' ⟨rfl, rfl⟩)
        | (go_at_call 9; refine (awake_any _).mono ?_; rintro e w' ⟨rfl, hb⟩))
    go_wp2_with fail
    go_ret
    exact ⟨rfl, DONE.out _ _ (by first | exact B2.out.drew | exact below_dN B2.out _) hb⟩

set_option maxHeartbeats 4000000 in
set_option maxRecDepth 100000 in
/-- The number is put, and got. -/
theorem back_fits_8n (b o n c : Nat) (at_ s N : Nat) (l : List UInt8) (w : World) (h : Reads8 w (some ⟨b, o, none⟩) n l) (hnc : n ≤ c) (hcm : c ≤ maxLen) (h300 : n ≤ 300) (hs1 : 1 ≤ s) (hs8 : s ≤ 8) (hfit : at_ + s ≤ n) (hN : N < 256 ^ s) (hq8 : ((s : Int) == 8) = true) (hca : ¬ c = at_ + s) :
    Calls Try.prog 4 #[.slice (some ⟨b, o, none⟩) n c, .int .i64 (at_ : Int), .int .i64 (s : Int), .int .u64 (N : Int)] w fun e w' => e = .returned (.bool true) ∧ Below w.heap.size w w' := by
  have hl := Lib.hid h.1
  have HR := Lib.hid h; clear h
  have HN := Lib.hid hN; clear hN
  have HCM := Lib.hid hcm
  unfold maxLen at hcm
  have hq : s ≠ 8 → decide ((N : Int) < IntKind.u64.wrap (2 ^ (8 * s))) = true := by
    intro h8
    have hpw : (2 : Int) ^ (8 * s) = ((256 ^ s : Nat) : Int) := by rw [Int.pow_mul]; simp
    have hlt7 : 256 ^ s ≤ 256 ^ 7 := Nat.pow_le_pow_right (by omega) (by omega)
    rw [hpw, IntKind.wrap_u64']
    have h1 := HN.out
    have h256 : (256 : Nat) ^ 7 = 72057594037927936 := rfl
    rw [h256] at hlt7
    generalize 256 ^ s = X at h1 hlt7 ⊢
    exact decide_eq_true (by omega)
  have HQ := Lib.hid hq; clear hq
  have HCA := Lib.hid hca; clear hca
  go_enter Try.func4, Try.ntmps4
  go_wp2_with fail
  refine (again_any _ n c l _ HR.out (by simp only [maxLen]; omega)).mono ?_
  rintro e w1 ⟨v, rfl, hF⟩
  obtain ⟨g, d, rfl, hg, hd, hdm, hM, hB⟩ := hF.open_ hl.out
  have M1 := Lib.hid hM
  have B1 := Lib.hid hB
  have R1 := Lib.hid (HR.out.keep hB)
  have hgw : w.heap.size ≤ g := hg
  have hbg : b ≠ g := by
    obtain ⟨b', o', e, hlt, _⟩ := HR.out.2 (by omega)
    injection e with e
    injection e with e1 e2
    omega
  clear hM hB hF HR
  unfold maxLen at hdm
  go_wp2_with fail
  refine (put_yes' g 0 n d l at_ s N _ M1.out (by simp only [maxLen]; omega) hd (by omega) (by omega) (by omega) HN.out).mono ?_
  rintro e w2 ⟨rfl, hw2, hm2⟩
  have M2 := Lib.hid hm2
  have R2 := Lib.hid (hw2.farR R1.out (by intro a e; injection e with e; subst e; exact hbg))
  have B2 := Lib.hid (B1.out.trans (hw2.below hgw))
  clear hw2 hm2 M1 B1 R1
  have cut1 : ((l.take at_ ++ be N s ++ l.drop (at_ + s)).drop at_).take s = be N s := by
    have hlt : (l.take at_).length = at_ := by have := hl.out; simp; omega
    rw [List.append_assoc, List.drop_append_of_le_length (by omega), List.drop_of_length_le (by omega), List.nil_append, List.take_append_of_le_length (by rw [be_length]; omega), List.take_of_length_le (by rw [be_length]; omega)]
  have Cut1 := Lib.hid cut1; clear cut1
  have hnum : num8 (be N s) = N := by rw [num8_be]; exact Nat.mod_eq_of_lt HN.out
  have Hnum := Lib.hid hnum; clear hnum
  have hla : (l.take at_).length = at_ := by have := hl.out; simp; omega
  have r1 : Reads8 w2 (some ⟨g, 0, none⟩) at_ (l.take at_) := by
    have := (M2.out.sub 0 at_ (by omega)).reads
    rw [List.drop_zero, List.append_assoc, List.take_append_of_le_length (by omega), List.take_of_length_le (by omega)] at this
    exact this
  have r2 : Reads8 w2 (some ⟨b, o, none⟩) at_ (l.take at_) := by
    have := R2.out.sub 0 at_ (by omega) (by omega)
    rw [List.drop_zero] at this
    exact this
  have r3 : Reads8 w2 (some ⟨g, at_ + s, none⟩) (n - (at_ + s)) (l.drop (at_ + s)) := by
    have := (M2.out.sub (at_ + s) (n - (at_ + s)) (by omega)).reads
    have e1 : (l.take at_ ++ be N s ++ l.drop (at_ + s)).drop (at_ + s) = l.drop (at_ + s) := by
      have e2 : (l.take at_ ++ be N s).length = at_ + s := by rw [List.length_append, hla, be_length]
      rw [List.drop_append_of_le_length (by omega), List.drop_of_length_le (by omega), List.nil_append]
    rw [e1, List.take_of_length_le (by have := hl.out; simp; omega), Nat.zero_add] at this
    exact this
  have r4 : Reads8 w2 (some ⟨b, o + (at_ + s), none⟩) (n - (at_ + s)) (l.drop (at_ + s)) := by
    have := R2.out.sub (at_ + s) (n - (at_ + s)) (by omega) (by omega)
    rw [List.take_of_length_le (by have := hl.out; simp; omega)] at this
    exact this
  have r5 : ∀ A : Option Addr, n = at_ + s → Reads8 w2 A (n - (at_ + s)) (l.drop (at_ + s)) := by
    intro A e
    rw [List.drop_of_length_le (by have := hl.out; omega), show n - (at_ + s) = 0 by omega]
    exact Reads8.nil _ _
  have Q1 := Lib.hid r1
  have Q2 := Lib.hid r2
  have Q3 := Lib.hid r3
  have Q4 := Lib.hid r4
  have Q5 := Lib.hid r5
  clear r1 r2 r3 r4 r5 hla
  have hd8 : decide ((s : Int) ≤ (n : Int) - (at_ : Int)) = true := decide_eq_true (by omega)
  have hse : decide ((at_ : Int) + s ≤ (n : Int)) = true := decide_eq_true (by omega)
  have e1 : ∀ W : World, W.heap = w2.heap → Calls Try.prog 15 #[.slice (some ⟨g, 0, none⟩) at_ d, .slice (some ⟨b, o, none⟩) at_ c] W fun e w' => e = .returned (.bool true) ∧ W = w' := by
    intro W hW
    have := equal_any (some ⟨g, 0, none⟩) (some ⟨b, o, none⟩) at_ at_ d c _ _ W (reads_heap Q1.out hW) (reads_heap Q2.out hW)
    rwa [show same8 (l.take at_) (l.take at_) = true from same8_iff.2 rfl] at this
  have e2 : ∀ W : World, W.heap = w2.heap → ∀ (A1 A2 : Option Addr) (c1 c2 : Nat), Reads8 w2 A1 (n - (at_ + s)) (l.drop (at_ + s)) → Reads8 w2 A2 (n - (at_ + s)) (l.drop (at_ + s)) → Calls Try.prog 15 #[.slice A1 (n - (at_ + s)) c1, .slice A2 (n - (at_ + s)) c2] W fun e w' => e = .returned (.bool true) ∧ W = w' := by
    intro W hW A1 A2 c1 c2 h1 h2
    have := equal_any A1 A2 (n - (at_ + s)) (n - (at_ + s)) c1 c2 _ _ W (reads_heap h1 hW) (reads_heap h2 hW)
    rwa [show same8 (l.drop (at_ + s)) (l.drop (at_ + s)) = true from same8_iff.2 rfl] at this
  have E1 := Lib.hid e1
  have E2 := Lib.hid e2
  clear e1 e2 Q1 Q2
  have i0 : (0 : Int) ≤ (at_ : Int) := by omega
  have i1 : (at_ : Int) ≤ (d : Int) := by omega
  have i2 : (at_ : Int) ≤ (c : Int) := by omega
  have i3 : (at_ : Int) + s ≤ (n : Int) := by omega
  have i4 : (0 : Int) ≤ (at_ : Int) + s := by omega
  have i5 : IntKind.i64.wrap ((at_ : Int) + s) = (at_ : Int) + s := IntWalk.i64_in _ (by omega)
  have i6 : ((at_ : Int) + s).toNat = at_ + s := by omega
  have I5 := Lib.hid i5; clear i5
  have I6 := Lib.hid i6; clear i6
  have done : ∀ W w3 : World, Below w.heap.size w W → Below W.heap.size W w3 → Below w.heap.size w w3 := fun W w3 h1 h2 => h1.trans (h2.mono h1.size)
  have DONE := Lib.hid done; clear done
  have hca := HCA.out
  rcases (Classical.em (d = at_ + s)) with hda | hda
  · have HDA := Lib.hid hda
    replace hda := eq_true hda
    go_wp2_with fail
    refine (get_yes g 0 n _ _ at_ s _ M2.out.reads (by simp only [maxLen]; omega) hd (by omega) (by omega) (by omega)).mono ?_
    rintro e w' ⟨rfl, rfl⟩
    rw [Cut1.out, Hnum.out]
    go_wp2_with fail
    have i5 := I5.out
    have i6 := I6.out
    go_region_held3 (fun _ => True) (trivial)
      (first
        | (go_at_call 15; (with_reducible refine (E1.out _ ?_).mono ?_); rfl; rintro e w' ⟨rfl, rfl⟩)
        | (go_at_call 15; (with_reducible refine (E2.out _ ?_ _ _ _ _ ?_ ?_).mono ?_); rfl; (first | exact Q3.out | exact Q5.out _ (by have := HDA.out; omega) | exact Q5.out _ (by have := HCE.out; omega)); (first | exact Q4.out | exact Q5.out _ (by have := HDA.out; omega) | exact Q5.out _ (by have := HCE.out; omega)); rintro e w' ⟨rfl, rfl⟩)
        | (go_at_call 9; refine (awake_any _).mono ?_; rintro e w' ⟨rfl, hb⟩))
    go_wp2_with fail
    go_ret
    exact ⟨rfl, DONE.out _ _ (by first | exact B2.out.drew | exact below_dN B2.out _) hb⟩
  · have HDA := Lib.hid hda
    go_wp2_with fail
    refine (get_yes g 0 n _ _ at_ s _ M2.out.reads (by simp only [maxLen]; omega) hd (by omega) (by omega) (by omega)).mono ?_
    rintro e w' ⟨rfl, rfl⟩
    rw [Cut1.out, Hnum.out]
    go_wp2_with fail
    have i5 := I5.out
    have i6 := I6.out
    go_region_held3 (fun _ => True) (trivial)
      (first
        | (go_at_call 15; (with_reducible refine (E1.out _ ?_).mono ?_); rfl; rintro e w' ⟨rfl, rfl⟩)
        | (go_at_call 15; (with_reducible refine (E2.out _ ?_ _ _ _ _ ?_ ?_).mono ?_); rfl; (first | exact Q3.out | exact Q5.out _ (by have := HDA.out; omega) | exact Q5.out _ (by have := HCE.out; omega)); (first | exact Q4.out | exact Q5.out _ (by have := HDA.out; omega) | exact Q5.out _ (by have := HCE.out; omega)); rintro e w' ⟨rfl, rfl⟩)
        | (go_at_call 9; refine (awake_any _).mono ?_; rintro e w' ⟨rfl, hb⟩))
    go_wp2_with fail
    go_ret
    exact ⟨rfl, DONE.out _ _ (by first | exact B2.out.drew | exact below_dN B2.out _) hb⟩

end Go.Proofs.Ytndhnhpiinkcgaa
