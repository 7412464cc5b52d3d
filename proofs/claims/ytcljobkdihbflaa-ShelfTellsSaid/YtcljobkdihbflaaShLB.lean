/-
  ShelfBack: the walk.
-/
import Derived.Test.YtcljobkdihbflaaShI
import Derived.Deep.Cut
namespace Go.Proofs.Ytcljobkdihbflaa
open Go.RowKit
set_option linter.unusedVariables false
set_option linter.unusedSimpArgs false
attribute [local go_sem ↓] Go.wp_at_zero Go.wp_at_succ

/-- A variable that holds a shelf. -/
structure BoxS (w : World) (b : Nat) (s : Shelf) (A : Option Addr) (n c : Nat) : Prop where
  mem : MemC w b 0 [.int .u8 (s.depth.toNat : Int), .int .u32 (s.next.toNat : Int), .slice A n c]
  rd : ReadsE w A n s.ents
theorem BoxS.keep {w w' : World} {b n c : Nat} {s : Shelf} {A : Option Addr} (h : BoxS w b s A n c) (hb : Below w.heap.size w w') : BoxS w' b s A n c := ⟨h.mem.keep hb, h.rd.keep hb⟩
theorem BoxS.new (w : World) (s : Shelf) (A : Option Addr) (n c : Nat) (h : ReadsE w A n s.ents) : BoxS (w.alloc (.cells #[.int .u8 (s.depth.toNat : Int), .int .u32 (s.next.toNat : Int), .slice A n c] 25)) w.heap.size s A n c :=
  ⟨MemC.new w [.int .u8 (s.depth.toNat : Int), .int .u32 (s.next.toNat : Int), .slice A n c] 25, h.keep ((Below.refl _ w).alloc (Nat.le_refl _) _)⟩
theorem BoxS.cells {w : World} {b n c : Nat} {s : Shelf} {A : Option Addr} (h : BoxS w b s A n c) : w.cell? ⟨b, 0, none⟩ = some (.int .u8 (s.depth.toNat : Int)) ∧ w.cell? ⟨b, 1, none⟩ = some (.int .u32 (s.next.toNat : Int)) ∧ w.cell? ⟨b, 2, none⟩ = some (.slice A n c) :=
  ⟨(h.mem.get 0 _ rfl).1, (h.mem.get 1 _ rfl).1, (h.mem.get 2 _ rfl).1⟩

theorem sval_eq (s : Shelf) (A : Option Addr) (n c : Nat) : Value.agg #[.int .u8 (s.depth.toNat : Int), .int .u32 (s.next.toNat : Int), .slice A n c] = sval s A n c := rfl
theorem enc_tests (s : Shelf) : (encE s == 0) = rightB s ∧ (encE s != 0) = !rightB s := by
  unfold encE
  cases rightB s <;> decide

theorem spage_len (s : Shelf) (h : rightB s = true) : (pageOf 3 (sbody s)).length = 128 := by
  have := (rightB_iff.1 h).2.2.1
  exact pageOf_length 3 _ (by rw [sbody_length]; omega)
theorem same_pages (s t : Shelf) (hs : rightB s = true) (ht : rightB t = true) : same8 (pageOf 3 (sbody s)) (pageOf 3 (sbody t)) = sameS s t := by
  rw [Bool.eq_iff_iff, same8_iff, sameS_iff]
  exact ⟨spage_inj s t hs ht, fun h => by rw [h]⟩

set_option maxHeartbeats 2000000 in
theorem back_out (s t : Shelf) (A B : Option Addr) (n c m d : Nat) (w : World) (hn : n ≤ maxLen) (hm : m ≤ maxLen) (ho : 20 < n ∨ 20 < m) :
    Calls Try.prog 6 #[sval s A n c, sval t B m d] w fun e w' => e = .returned (.bool true) ∧ Below w.heap.size w w' := by
  unfold maxLen at hn hm
  have h' : (20 : Int) < (n : Int) ∨ (¬ (20 : Int) < (n : Int) ∧ (20 : Int) < (m : Int)) := by omega
  clear ho
  unfold sval
  rcases h' with h1 | ⟨h1, h2⟩
  all_goals
    go_enter Try.func6, Try.ntmps6
    go_wp2_with (go_at_call 9; refine (awake_any _).mono ?_; rintro e w' ⟨rfl, hb⟩)
    go_ret
    exact ⟨rfl, (((Below.refl w.heap.size w).alloc (Nat.le_refl _) _).alloc (by simp) _).trans (hb.mono (by simp; omega))⟩

set_option maxHeartbeats 8000000 in
set_option maxRecDepth 100000 in
theorem back_in (s t : Shelf) (A B : Option Addr) (n c m d : Nat) (w : World) (h : ReadsE w A n s.ents) (g : ReadsE w B m t.ents) (hn : n ≤ 20) (hm : m ≤ 20) :
    Calls Try.prog 6 #[sval s A n c, sval t B m d] w fun e w' => e = .returned (.bool true) ∧ Below w.heap.size w w' := by
  have HR := Lib.hid h; clear h
  have HG := Lib.hid g; clear g
  obtain ⟨W1, hW1⟩ : ∃ W1 : World, W1 = w.alloc (.cells #[.int .u8 (s.depth.toNat : Int), .int .u32 (s.next.toNat : Int), .slice A n c] 25) := ⟨_, rfl⟩
  obtain ⟨W0, hW0⟩ : ∃ W0 : World, W0 = W1.alloc (.cells #[.int .u8 (t.depth.toNat : Int), .int .u32 (t.next.toNat : Int), .slice B m d] 25) := ⟨_, rfl⟩
  have b1 : Below w.heap.size w W1 := by rw [hW1]; exact (Below.refl _ w).alloc (Nat.le_refl _) _
  have b2 : Below W1.heap.size W1 W0 := by rw [hW0]; exact (Below.refl _ _).alloc (Nat.le_refl _) _
  have B0 := Lib.hid (b1.trans (b2.mono b1.size))
  have x1 : BoxS W1 w.heap.size s A n c := by rw [hW1]; exact BoxS.new w s A n c HR.out
  have hz : W1.heap.size = w.heap.size + 1 := by rw [hW1]; simp
  have S0 := Lib.hid (x1.keep b2)
  have T0 : Hid (BoxS W0 (w.heap.size + 1) t B m d) := Lib.hid (by rw [← hz, hW0]; exact BoxS.new W1 t B m d (HG.out.keep b1))
  have HW : Hid (W0 = (w.alloc (.cells #[.int .u8 (s.depth.toNat : Int), .int .u32 (s.next.toNat : Int), .slice A n c] 25)).alloc (.cells #[.int .u8 (t.depth.toNat : Int), .int .u32 (t.next.toNat : Int), .slice B m d] 25)) := Lib.hid (by rw [hW0, hW1])
  clear b1 b2 x1 hz hW0 hW1
  have hn20 : ¬ (20 : Int) < (n : Int) := by omega
  have hm20 : ¬ (20 : Int) < (m : Int) := by omega
  obtain ⟨a0, a1, a2⟩ := S0.out.cells
  obtain ⟨b0, b1, b2⟩ := T0.out.cells
  have ts := enc_tests s
  have tt := enc_tests t
  have TS := Lib.hid ts; clear ts
  have TT := Lib.hid tt; clear tt
  unfold sval
  go_enter Try.func6, Try.ntmps6
  go_upto_region 1 with fail
  rw [← HW.out]
  clear HW
  go_wp2_with fail
  rw [sval_eq]
  refine (encode_u s A n c _ S0.out.rd (by simp only [maxLen]; omega)).mono ?_
  rintro e w1 ⟨A1, n1, c1, rfl, hr1, hnc1, hb⟩
  rw [← sval_eq]
  have B1 := Lib.hid (B0.out.trans (hb.mono B0.out.size))
  have S1 := Lib.hid (S0.out.keep hb)
  have T1 := Lib.hid (T0.out.keep hb)
  have P1 := Lib.hid hr1
  have L1 := Lib.hid hr1.1
  clear hb hr1 a0 a1 a2 b0 b1 b2 S0 T0 B0
  obtain ⟨a0, a1, a2⟩ := S1.out.cells
  obtain ⟨b0, b1, b2⟩ := T1.out.cells
  go_wp2_with fail
  rw [sval_eq t]
  refine (encode_u t B m d _ T1.out.rd (by simp only [maxLen]; omega)).mono ?_
  rintro e w2 ⟨A2, n2, c2, rfl, hr2, hnc2, hb⟩
  rw [← sval_eq t]
  have B2 := Lib.hid (B1.out.trans (hb.mono B1.out.size))
  have S2 := Lib.hid (S1.out.keep hb)
  have T2 := Lib.hid (T1.out.keep hb)
  have P2 := Lib.hid (P1.out.keep hb)
  have Q2 := Lib.hid hr2
  clear hb hr2 a0 a1 a2 b0 b1 b2 S1 T1 B1 P1
  obtain ⟨a0, a1, a2⟩ := S2.out.cells
  obtain ⟨b0, b1, b2⟩ := T2.out.cells
  obtain ⟨es, hes⟩ : ∃ es, es = encE s := ⟨_, rfl⟩
  obtain ⟨et, het⟩ : ∃ et, et = encE t := ⟨_, rfl⟩
  obtain ⟨te1, te2⟩ := TS.out
  obtain ⟨tf1, tf2⟩ := TT.out
  rw [← hes] at te1 te2 ⊢
  rw [← het] at tf1 tf2 ⊢
  have HES := Lib.hid hes; clear hes
  have HET := Lib.hid het; clear het
  go_wp2_with fail
  refine (right_any s A n c _ S2.out.rd (by simp only [maxLen]; omega)).mono ?_
  rintro e w3 ⟨rfl, hb⟩
  have B3 := Lib.hid (B2.out.trans (hb.mono B2.out.size))
  have S3 := Lib.hid (S2.out.keep hb)
  have T3 := Lib.hid (T2.out.keep hb)
  have P3 := Lib.hid (P2.out.keep hb)
  have Q3 := Lib.hid (Q2.out.keep hb)
  clear hb a0 a1 a2 b0 b1 b2 S2 T2 B2 P2 Q2
  obtain ⟨a0, a1, a2⟩ := S3.out.cells
  obtain ⟨b0, b1, b2⟩ := T3.out.cells
  go_wp2_with fail
  refine (right_any t B m d _ T3.out.rd (by simp only [maxLen]; omega)).mono ?_
  rintro e w4 ⟨rfl, hb⟩
  have B4 := Lib.hid (B3.out.trans (hb.mono B3.out.size))
  have S4 := Lib.hid (S3.out.keep hb)
  have T4 := Lib.hid (T3.out.keep hb)
  have P4 := Lib.hid (P3.out.keep hb)
  have Q4 := Lib.hid (Q3.out.keep hb)
  clear hb a0 a1 a2 b0 b1 b2 S3 T3 B3 P3 Q3
  obtain ⟨a0, a1, a2⟩ := S4.out.cells
  obtain ⟨b0, b1, b2⟩ := T4.out.cells
  cases hbs : rightB s
  · have hes : es = 40 := by rw [HES.out]; unfold encE; rw [hbs]; rfl
    have hL : n1 = 0 := by have := L1.out; unfold encL at this; rw [hbs] at this; simpa using this.symm
    subst hes
    subst hL
    rw [hbs] at te1 te2
    clear hbs
    go_wp2_with fail
    refine (awake_any _).mono ?_
    rintro e w' ⟨rfl, hb⟩
    have B5 := Lib.hid (B4.out.trans (hb.mono B4.out.size)); clear hb
    go_wp2_with fail
    go_ret
    exact ⟨rfl, B5.out⟩
  · have hes : es = 0 := by rw [HES.out]; unfold encE; rw [hbs]; rfl
    have hen : encL s = pageOf 3 (sbody s) := by unfold encL; rw [hbs]; rfl
    have hL : n1 = 128 := by have := L1.out; rw [hen, spage_len s hbs] at this; exact this.symm
    subst hes
    subst hL
    rw [hbs] at te1 te2
    rw [hen] at P4
    have HBS := Lib.hid hbs
    clear hbs hen L1
    go_wp2_with fail
    refine (decode_yes _ 128 c1 _ s _ P4.out (by simp only [maxLen]; omega) hnc1 rfl HBS.out).mono ?_
    rintro e w5 ⟨v, N, rfl, hN, hown, hb⟩
    obtain ⟨A5, c5, rfl, r5, hc5, hm5⟩ := own_readsE hown
    have B5 := Lib.hid (B4.out.trans (hb.mono B4.out.size))
    have S5 := Lib.hid (S4.out.keep hb)
    have T5 := Lib.hid (T4.out.keep hb)
    have P5 := Lib.hid (P4.out.keep hb)
    have Q5 := Lib.hid (Q4.out.keep hb)
    obtain ⟨W6, hW6⟩ : ∃ W6 : World, W6 = w5.alloc (.cells #[.int .u8 (s.depth.toNat : Int), .int .u32 (s.next.toNat : Int), .slice A5 s.ents.length c5] 25) := ⟨_, rfl⟩
    have hb6 : Below w5.heap.size w5 W6 := by rw [hW6]; exact (Below.refl _ _).alloc (Nat.le_refl _) _
    have X6 : Hid (BoxS W6 w5.heap.size s A5 s.ents.length c5) := Lib.hid (by rw [hW6]; exact BoxS.new w5 s A5 _ c5 r5)
    have B6 := Lib.hid (B5.out.trans (hb6.mono B5.out.size))
    have S6 := Lib.hid (S5.out.keep hb6)
    have T6 := Lib.hid (T5.out.keep hb6)
    have P6 := Lib.hid (P5.out.keep hb6)
    have Q6 := Lib.hid (Q5.out.keep hb6)
    have HW6 := Lib.hid hW6
    clear hb hb6 hown r5 hW6 a0 a1 a2 b0 b1 b2 S4 T4 B4 P4 Q4 S5 T5 B5 P5 Q5
    go_upto_region 10 with fail
    rw [← HW6.out]
    clear HW6
    obtain ⟨a0, a1, a2⟩ := S6.out.cells
    obtain ⟨x0, x1, x2⟩ := X6.out.cells
    go_wp2_with fail
    refine (eqs_any s s A5 A _ n c5 c _ X6.out.rd S6.out.rd (by simp only [maxLen]; have := S6.out.rd.1; omega) (by simp only [maxLen]; omega)).mono ?_
    rintro e w7 ⟨rfl, hb⟩
    rw [show sameS s s = true from sameS_iff.2 rfl]
    have B7 := Lib.hid (B6.out.trans (hb.mono B6.out.size))
    have S7 := Lib.hid (S6.out.keep hb)
    have T7 := Lib.hid (T6.out.keep hb)
    have P7 := Lib.hid (P6.out.keep hb)
    have Q7 := Lib.hid (Q6.out.keep hb)
    clear hb a0 a1 a2 x0 x1 x2 S6 T6 B6 P6 Q6 X6
    cases hbt : rightB t
    · have het : et = 40 := by rw [HET.out]; unfold encE; rw [hbt]; rfl
      subst het
      clear tf1 tf2
      go_upto_region 12 with fail
      clear TS TT HES HET te1 te2
      have B8 := Lib.hid B7.out.drew
      refine wp_region_held_drew (S := fun _ => True) (by kernel_rfl) trivial (fun hHeld => ?_)
      refine wpAnyH_take (i := 0) (v := .int .i64 40) rfl (by kernel_rfl) (by kernel_rfl) (by kernel_rfl) (fun _ _ _ h => h) (Or.inl ⟨by kernel_rfl, fun w _ => by go_simp⟩) hHeld ?_
      try simp only [Act.put, List.getElem_toArray, List.getElem_cons_succ, List.getElem_cons_zero, List.setIfInBounds_toArray, List.set_cons_zero, List.set_cons_succ]
      refine wpAnyH_take (i := 1) (v := .bool true) rfl (by kernel_rfl) (by kernel_rfl) (by kernel_rfl) (fun _ _ _ h => h) (Or.inl ⟨by kernel_rfl, fun w _ => by go_simp⟩) hHeld ?_
      try simp only [Act.put, List.getElem_toArray, List.getElem_cons_succ, List.getElem_cons_zero, List.setIfInBounds_toArray, List.set_cons_zero, List.set_cons_succ]
      refine wpAnyH_take (i := 2) (v := .bool true) rfl (by kernel_rfl) (by kernel_rfl) (by kernel_rfl) (fun _ _ _ h => h) (Or.inl ⟨by kernel_rfl, fun w _ => by go_simp⟩) hHeld ?_
      try simp only [Act.put, List.getElem_toArray, List.getElem_cons_succ, List.getElem_cons_zero, List.setIfInBounds_toArray, List.set_cons_zero, List.set_cons_succ]
      refine wpAnyH_take (i := 3) (v := undef) rfl (by kernel_rfl) (by kernel_rfl) (by kernel_rfl) (fun _ _ _ h => h) (Or.inr ⟨by kernel_rfl, rfl⟩) hHeld ?_
      try simp only [Act.put, List.getElem_toArray, List.getElem_cons_succ, List.getElem_cons_zero, List.setIfInBounds_toArray, List.set_cons_zero, List.set_cons_succ]
      refine wpAnyH_take (i := 4) (v := undef) rfl (by kernel_rfl) (by kernel_rfl) (by kernel_rfl) (fun _ _ _ h => h) (Or.inr ⟨by kernel_rfl, rfl⟩) hHeld ?_
      try simp only [Act.put, List.getElem_toArray, List.getElem_cons_succ, List.getElem_cons_zero, List.setIfInBounds_toArray, List.set_cons_zero, List.set_cons_succ]
      refine wpAnyH_take (i := 5) (v := undef) rfl (by kernel_rfl) (by kernel_rfl) (by kernel_rfl) (fun _ _ _ h => h) (Or.inr ⟨by kernel_rfl, rfl⟩) hHeld ?_
      try simp only [Act.put, List.getElem_toArray, List.getElem_cons_succ, List.getElem_cons_zero, List.setIfInBounds_toArray, List.set_cons_zero, List.set_cons_succ]
      refine wpAnyH_take (i := 6) (v := undef) rfl (by kernel_rfl) (by kernel_rfl) (by kernel_rfl) (fun _ _ _ h => h) (Or.inr ⟨by kernel_rfl, rfl⟩) hHeld ?_
      try simp only [Act.put, List.getElem_toArray, List.getElem_cons_succ, List.getElem_cons_zero, List.setIfInBounds_toArray, List.set_cons_zero, List.set_cons_succ]
      refine wpAnyH_take (i := 7) (v := undef) rfl (by kernel_rfl) (by kernel_rfl) (by kernel_rfl) (fun _ _ _ h => h) (Or.inr ⟨by kernel_rfl, rfl⟩) hHeld ?_
      try simp only [Act.put, List.getElem_toArray, List.getElem_cons_succ, List.getElem_cons_zero, List.setIfInBounds_toArray, List.set_cons_zero, List.set_cons_succ]
      refine wpAnyH_take (i := 8) (v := undef) rfl (by kernel_rfl) (by kernel_rfl) (by kernel_rfl) (fun _ _ _ h => h) (Or.inr ⟨by kernel_rfl, rfl⟩) hHeld ?_
      try simp only [Act.put, List.getElem_toArray, List.getElem_cons_succ, List.getElem_cons_zero, List.setIfInBounds_toArray, List.set_cons_zero, List.set_cons_succ]
      refine wpAnyH_take (i := 9) (v := undef) rfl (by kernel_rfl) (by kernel_rfl) (by kernel_rfl) (fun _ _ _ h => h) (Or.inr ⟨by kernel_rfl, rfl⟩) hHeld ?_
      try simp only [Act.put, List.getElem_toArray, List.getElem_cons_succ, List.getElem_cons_zero, List.setIfInBounds_toArray, List.set_cons_zero, List.set_cons_succ]
      refine wpAnyH_take (i := 10) (v := .bool true) rfl (by kernel_rfl) (by kernel_rfl) (by kernel_rfl) (fun _ _ _ h => h) (Or.inl ⟨by kernel_rfl, fun w _ => by go_simp⟩) hHeld ?_
      try simp only [Act.put, List.getElem_toArray, List.getElem_cons_succ, List.getElem_cons_zero, List.setIfInBounds_toArray, List.set_cons_zero, List.set_cons_succ]
      refine wpAnyH_take (i := 11) (v := .bool true) rfl (by kernel_rfl) (by kernel_rfl) (by kernel_rfl) (fun _ _ _ h => h) (Or.inl ⟨by kernel_rfl, fun w _ => by go_simp⟩) hHeld ?_
      try simp only [Act.put, List.getElem_toArray, List.getElem_cons_succ, List.getElem_cons_zero, List.setIfInBounds_toArray, List.set_cons_zero, List.set_cons_succ]
      refine wpAnyH_ready (rs := [12]) (by kernel_rfl) (by simp) ?_
      refine AllReadyH.cons rfl (fun K hK => ?_) AllReadyH.nil
      go_simp
      go_at_call 9
      refine (awake_any _).mono ?_
      rintro e w' ⟨rfl, hb⟩
      refine hK.out _ _ trivial (fun hHeld => ?_)
      try simp only [Act.put, List.getElem_toArray, List.getElem_cons_succ, List.getElem_cons_zero, List.setIfInBounds_toArray, List.set_cons_zero, List.set_cons_succ]
      refine wpAnyH_take (i := 13) (v := .bool true) rfl (by kernel_rfl) (by kernel_rfl) (by kernel_rfl) (fun _ _ _ h => h) (Or.inl ⟨by kernel_rfl, fun w _ => by go_simp⟩) hHeld ?_
      try simp only [Act.put, List.getElem_toArray, List.getElem_cons_succ, List.getElem_cons_zero, List.setIfInBounds_toArray, List.set_cons_zero, List.set_cons_succ]
      refine wpAnyH_take (i := 14) (v := .bool true) rfl (by kernel_rfl) (by kernel_rfl) (by kernel_rfl) (fun _ _ _ h => h) (Or.inl ⟨by kernel_rfl, fun w _ => by go_simp⟩) hHeld ?_
      try simp only [Act.put, List.getElem_toArray, List.getElem_cons_succ, List.getElem_cons_zero, List.setIfInBounds_toArray, List.set_cons_zero, List.set_cons_succ]
      refine wpAnyH_done (by kernel_rfl) ?_ _
      go_wp2_with fail
      go_ret
      exact ⟨rfl, B8.out.trans (hb.mono B8.out.size)⟩
    · have hs8 := same_pages s t HBS.out hbt
      have hen : encL t = pageOf 3 (sbody t) := by unfold encL; rw [hbt]; rfl
      rw [hen] at Q7
      have het : et = 0 := by rw [HET.out]; unfold encE; rw [hbt]; rfl
      subst het
      clear tf1 tf2
      have HS8 := Lib.hid hs8
      clear hs8 hbt hen
      have hSall : ∀ w', Below w7.heap.size w7 w' → w'.cell? ⟨w.heap.size, 0, none⟩ = some (.int .u8 (s.depth.toNat : Int)) ∧ w'.cell? ⟨w.heap.size, 1, none⟩ = some (.int .u32 (s.next.toNat : Int)) ∧ w'.cell? ⟨w.heap.size, 2, none⟩ = some (.slice A n c) ∧
          w'.cell? ⟨w.heap.size + 1, 0, none⟩ = some (.int .u8 (t.depth.toNat : Int)) ∧ w'.cell? ⟨w.heap.size + 1, 1, none⟩ = some (.int .u32 (t.next.toNat : Int)) ∧ w'.cell? ⟨w.heap.size + 1, 2, none⟩ = some (.slice B m d) := fun w' hb => by
        obtain ⟨p0, p1, p2⟩ := (S7.out.keep hb).cells
        obtain ⟨q0, q1, q2⟩ := (T7.out.keep hb).cells
        exact ⟨p0, p1, p2, q0, q1, q2⟩
      have HS := Lib.hid hSall
      have HB := Lib.hid (Below.refl w7.heap.size w7)
      obtain ⟨p0, p1, p2, p3, p4, p5⟩ := hSall w7 (Below.refl _ _)
      clear hSall
      go_upto_region 12 with fail
      go_region_held3 (fun w' => w'.cell? ⟨w.heap.size, 0, none⟩ = some (.int .u8 (s.depth.toNat : Int)) ∧ w'.cell? ⟨w.heap.size, 1, none⟩ = some (.int .u32 (s.next.toNat : Int)) ∧ w'.cell? ⟨w.heap.size, 2, none⟩ = some (.slice A n c) ∧
          w'.cell? ⟨w.heap.size + 1, 0, none⟩ = some (.int .u8 (t.depth.toNat : Int)) ∧ w'.cell? ⟨w.heap.size + 1, 1, none⟩ = some (.int .u32 (t.next.toNat : Int)) ∧ w'.cell? ⟨w.heap.size + 1, 2, none⟩ = some (.slice B m d))
        (first | exact HS.out _ HB.out | exact HS.out _ HB.out.drew)
        ((first
          | (go_at_call 16; refine (equal_any A1 A2 128 n2 c1 c2 (pageOf 3 (sbody s)) (pageOf 3 (sbody t)) _ (P7.out.keep (HB.out.drew)) (Q7.out.keep (HB.out.drew))).mono ?_; rintro e w' ⟨rfl, rfl⟩; rw [HS8.out]; have HB := Lib.hid HB.out.drew)
          | (go_at_call 12; refine (eqs_any s t A B n m c d _ (S7.out.keep HB.out).rd (T7.out.keep HB.out).rd (by simp only [maxLen]; omega) (by simp only [maxLen]; omega)).mono ?_; rintro e w' ⟨rfl, hb⟩; have HB := Lib.hid (HB.out.trans (hb.mono HB.out.size)); clear hb)
          | (go_at_call 9; refine (awake_any _).mono ?_; rintro e w' ⟨rfl, hb⟩; have HB := Lib.hid (HB.out.trans (hb.mono HB.out.size)); clear hb)))
      all_goals
        go_wp2_with fail
        go_ret
        exact ⟨rfl, B7.out.trans (HB.out.mono B7.out.size)⟩

theorem lawBack (s t : Shelf) (A B : Option Addr) (n c m d : Nat) (w : World) (h : ReadsE w A n s.ents) (hnc : n ≤ c) (hcm : c ≤ maxLen) (g : ReadsE w B m t.ents) (hmd : m ≤ d) (hdm : d ≤ maxLen) :
    Calls Try.prog 6 #[sval s A n c, sval t B m d] w fun e w' => e = .returned (.bool true) ∧ Below w.heap.size w w' := by
  by_cases ho : 20 < n ∨ 20 < m
  · exact back_out s t A B n c m d w (Nat.le_trans hnc hcm) (Nat.le_trans hmd hdm) ho
  · exact back_in s t A B n c m d w h g (by omega) (by omega)

end Go.Proofs.Ytcljobkdihbflaa
