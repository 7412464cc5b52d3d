/-
  catchmentlow.EqualShelves; catchmentlaw04.wrong.
-/
import Derived.Test.YtcljobkdihbflaaShF
namespace Go.Proofs.Ytcljobkdihbflaa
open Go.RowKit
set_option linter.unusedVariables false
attribute [local go_sem ↓] Go.wp_at_zero Go.wp_at_succ

set_option maxHeartbeats 2000000 in
theorem eqs_pre (s t : Shelf) (A B : Option Addr) (n m c d : Nat) (w : World) (hn : n ≤ maxLen) (hm : m ≤ maxLen) (h : ¬ (s.depth = t.depth ∧ s.next = t.next ∧ n = m)) :
    Calls Try.prog 12 #[sval s A n c, sval t B m d] w fun e w' => e = .returned (.bool false) ∧ Below w.heap.size w w' := by
  unfold maxLen at hn hm
  have h' : (((s.depth.toNat : Int) != (t.depth.toNat : Int)) = true) ∨ (((s.depth.toNat : Int) != (t.depth.toNat : Int)) = false ∧ ((s.next.toNat : Int) != (t.next.toNat : Int)) = true) ∨ (((s.depth.toNat : Int) != (t.depth.toNat : Int)) = false ∧ ((s.next.toNat : Int) != (t.next.toNat : Int)) = false ∧ ((n : Int) != (m : Int)) = true) := by
    by_cases h1 : s.depth = t.depth
    · by_cases h2 : s.next = t.next
      · refine .inr (.inr ⟨by rw [h1]; simp, by rw [h2]; simp, ?_⟩)
        simp
        intro e
        exact h ⟨h1, h2, by omega⟩
      · refine .inr (.inl ⟨by rw [h1]; simp, ?_⟩)
        simp
        intro e
        exact h2 (UInt32.toNat_inj.1 (by omega))
    · refine .inl ?_
      simp
      intro e
      exact h1 (UInt8.toNat_inj.1 (by omega))
  clear h
  unfold sval
  generalize (s.depth.toNat : Int) = a1 at *
  generalize (t.depth.toNat : Int) = a2 at *
  generalize (s.next.toNat : Int) = b1 at *
  generalize (t.next.toNat : Int) = b2 at *
  rcases h' with h1 | ⟨h1, h2⟩ | ⟨h1, h2, h3⟩
  all_goals
    go_enter Try.func12, Try.ntmps12
    go_wp2
    go_ret
    exact ⟨rfl, ((Below.refl _ w).alloc (Nat.le_refl _) _).alloc (by simp) _⟩

set_option maxHeartbeats 4000000 in
set_option maxRecDepth 100000 in
theorem eqs_in (D : UInt8) (X : UInt32) (l k : List Ent) (A B : Option Addr) (n c d : Nat) (w : World) (h : ReadsE w A n l) (g : ReadsE w B n k) (hn : n ≤ maxLen) :
    Calls Try.prog 12 #[.agg #[.int .u8 (D.toNat : Int), .int .u32 (X.toNat : Int), .slice A n c], .agg #[.int .u8 (D.toNat : Int), .int .u32 (X.toNat : Int), .slice B n d]] w fun e w' => e = .returned (.bool (decide (l = k))) ∧ Below w.heap.size w w' := by
  unfold maxLen at hn
  have hl := Lib.hid h.1
  have kl := Lib.hid g.1
  have HL := Lib.hid h; clear h
  have HK := Lib.hid g; clear g
  generalize (D.toNat : Int) = a1 at *
  generalize (X.toNat : Int) = b1 at *
  obtain ⟨W0, hW0⟩ : ∃ W0 : World, W0 = (w.alloc (.cells #[.int .u8 a1, .int .u32 b1, .slice A n c] 25)).alloc (.cells #[.int .u8 a1, .int .u32 b1, .slice B n d] 25) := ⟨_, rfl⟩
  have B0 : Hid (Below w.heap.size w W0) := Lib.hid (by rw [hW0]; exact ((Below.refl _ _).alloc (Nat.le_refl _) _).alloc (by simp) _)
  have k2 : W0.cell? ⟨w.heap.size, 2, none⟩ = some (.slice A n c) := by rw [hW0]; simp
  have k3 : W0.cell? ⟨w.heap.size + 1, 2, none⟩ = some (.slice B n d) := by rw [hW0]; simp
  have K2 := Lib.hid k2; clear k2
  have K3 := Lib.hid k3; clear k3
  have HL0 := Lib.hid (HL.out.keep B0.out)
  have HK0 := Lib.hid (HK.out.keep B0.out)
  have HW := Lib.hid hW0; clear hW0
  go_enter Try.func12, Try.ntmps12
  go_upto_region 4 with fail
  rw [← HW.out]
  clear HW
  go_loopw [5] (fun i wr => ∃ j : Nat, j ≤ n ∧ i = .int .i64 ((j : Int) - 1) ∧ (∃ q, wr = W0.drewN q) ∧ l.drop j = k.drop j) (fun i _ => (intOf i + 1).toNat)
  case atStart => exact ⟨n, Nat.le_refl _, rfl, ⟨0, rfl⟩, by rw [List.drop_of_length_le (by have := hl.out; omega), List.drop_of_length_le (by have := kl.out; omega)]⟩
  case round =>
    obtain ⟨j, hj, rfl, ⟨q, rfl⟩, hd⟩ := hrel
    have HD := Lib.hid hd; clear hd
    by_cases h0 : 0 < j
    · obtain ⟨i, rfl⟩ : ∃ i, j = i + 1 := ⟨j - 1, by omega⟩
      obtain ⟨b, o, rfl, hbl, c0, c1⟩ := HL0.out.getD (k := i) (by omega)
      obtain ⟨b2, o2, rfl, hbl2, c2, c3⟩ := HK0.out.getD (k := i) (by omega)
      have ex : l.drop i = l.getD i e0 :: l.drop (i + 1) := by
        rw [List.drop_eq_getElem_cons (by have := hl.out; omega)]
        simp [List.getD_eq_getElem?_getD, List.getElem?_eq_getElem (show i < l.length by have := hl.out; omega)]
      have ey : k.drop i = k.getD i e0 :: k.drop (i + 1) := by
        rw [List.drop_eq_getElem_cons (by have := kl.out; omega)]
        simp [List.getD_eq_getElem?_getD, List.getElem?_eq_getElem (show i < k.length by have := kl.out; omega)]
      obtain ⟨x, hx⟩ : ∃ x, x = l.getD i e0 := ⟨_, rfl⟩
      obtain ⟨y, hy⟩ : ∃ y, y = k.getD i e0 := ⟨_, rfl⟩
      rw [← hx] at c0 c1 ex
      rw [← hy] at c2 c3 ey
      have EX := Lib.hid ex; clear ex
      have EY := Lib.hid ey; clear ey
      clear hx hy
      have k2 := K2.out
      have k3 := K3.out
      have i0 : (0 : Int) ≤ (i : Int) := by omega
      have i1 : (i : Int) < (n : Int) := by omega
      have wi : IntKind.i64.wrap (i : Int) = (i : Int) := IntWalk.i64_in _ (by omega)
      rw [show ((i + 1 : Nat) : Int) - 1 = (i : Int) by omega]
      by_cases hxy : x = y
      · subst hxy
        go_wp2_with fail
        go_quiet (fail)
        go_wp2_with fail
        go_roundw
        case rel => exact ⟨i, by omega, by go_num, ⟨_, rfl⟩, by rw [EX.out, EY.out, HD.out]⟩
        case measure => simp [intOf]
      · have hb : ((x.1.toNat : Int) == (y.1.toNat : Int)) = false ∨ (((x.1.toNat : Int) == (y.1.toNat : Int)) = true ∧ ((x.2.toNat : Int) == (y.2.toNat : Int)) = false) := by
          by_cases h1 : x.1 = y.1
          · refine .inr ⟨by rw [h1]; simp, ?_⟩
            simp
            intro e
            exact hxy (Prod.ext h1 (UInt32.toNat_inj.1 (by omega)))
          · refine .inl ?_
            simp
            intro e
            exact h1 (UInt64.toNat_inj.1 (by omega))
        have hne : decide (l = k) = false := by
          apply decide_eq_false
          intro e
          subst e
          have := EX.out.symm.trans EY.out
          injection this with this _
          exact hxy this
        have HNE := Lib.hid hne
        clear hne hxy
        rcases hb with hb | ⟨ha, hb⟩
        all_goals
          go_wp2_with fail
          go_quiet (fail)
          go_wp2_with fail
          go_ret
          rw [HNE.out]
          exact ⟨rfl, below_dN (below_dN B0.out _) _⟩
    · obtain rfl : j = 0 := by omega
      have e : l = k := by simpa using HD.out
      have he : decide (l = k) = true := decide_eq_true e
      have HE := Lib.hid he
      clear e he
      go_wp2_with fail
      go_ret
      rw [HE.out]
      exact ⟨rfl, below_dN B0.out _⟩

theorem eqs_any (s t : Shelf) (A B : Option Addr) (n m c d : Nat) (w : World) (h : ReadsE w A n s.ents) (g : ReadsE w B m t.ents) (hn : n ≤ maxLen) (hm : m ≤ maxLen) :
    Calls Try.prog 12 #[sval s A n c, sval t B m d] w fun e w' => e = .returned (.bool (sameS s t)) ∧ Below w.heap.size w w' := by
  by_cases h1 : s.depth = t.depth ∧ s.next = t.next ∧ n = m
  · obtain ⟨h1, h2, rfl⟩ := h1
    unfold sameS sval
    rw [decide_eq_true h1, decide_eq_true h2, Bool.true_and, Bool.true_and, h1, h2]
    exact eqs_in t.depth t.next s.ents t.ents A B n c d w h g hn
  · have e : sameS s t = false := by
      cases hs : sameS s t
      · rfl
      · have := sameS_iff.1 hs
        subst this
        exact absurd ⟨rfl, rfl, h.1.symm.trans g.1⟩ h1
    rw [e]
    exact eqs_pre s t A B n m c d w hn hm h1

end Go.Proofs.Ytcljobkdihbflaa
