/-
  ShelfTells: the walk.
-/
import Derived.Test.YtcljobkdihbflaaShLB
import Derived.Test.YtcljobkdihbflaaShR5
import Derived.Deep.Cut
namespace Go.Proofs.Ytcljobkdihbflaa
open Go.RowKit
set_option linter.unusedVariables false
set_option linter.unusedSimpArgs false
attribute [local go_sem ↓] Go.wp_at_zero Go.wp_at_succ

theorem rencode_u (s : Shelf) (A : Option Addr) (n c : Nat) (w : World) (h : ReadsE w A n s.ents) (hn : n ≤ maxLen) :
    Calls Try.prog 14 #[sval s A n c] w fun e w' => RetR w w' (fun v => .tuple #[v, .int .i64 (encE s)]) (encL s) e := by
  unfold encL encE
  cases hok : rightB s
  · simp only [Bool.false_eq_true, if_false]
    exact (rencode_wrong s A n c w h hn hok).mono fun e w' ⟨he, hw⟩ => by subst he; exact ⟨_, _, _, rfl, Reads8.nil _ _, Nat.le_refl _, hw⟩
  · simp only [if_true]
    exact (rencode_right s A n c w h hok).mono fun e w' ⟨v, he, hF⟩ => by subst he; exact hF.ret (fun v => .tuple #[v, .int .i64 0])

def decSh (p : List UInt8) : Shelf := if isShelf p = true then shelfOf p else ⟨0, 0, []⟩
def decN (p : List UInt8) : Int := if isShelf p = true then 0 else 40
/-- A decode's answer, one form for both. -/
theorem DecS.all {p : List UInt8} {w w' : World} {e : Ending} (h : DecS p w e w') : ∃ A n c, e = .returned (.tuple #[.agg #[.int .u8 ((decSh p).depth.toNat : Int), .int .u32 ((decSh p).next.toNat : Int), .slice A n c], .int .i64 (decN p)]) ∧ ReadsE w' A n (decSh p).ents ∧ n ≤ maxLen ∧ Below w.heap.size w w' := by
  unfold decSh decN
  rcases h with ⟨h1, v, N, rfl, hN, hown, hb⟩ | ⟨h1, rfl, hb⟩
  · rw [h1]
    obtain ⟨A, c, rfl, r, hc, hm⟩ := own_readsE hown
    exact ⟨A, _, c, rfl, r, Nat.le_trans hc hm, hb⟩
  · rw [h1]
    exact ⟨none, 0, 0, rfl, ReadsE.nil _ _, by simp [maxLen], hb⟩

set_option maxHeartbeats 2000000 in
theorem stells_out (s : Shelf) (A B : Option Addr) (n c m d : Nat) (w : World) (hn : n ≤ maxLen) (hm : m ≤ maxLen) (ho : 20 < n ∨ 200 < m) :
    Calls Try.prog 5 #[sval s A n c, .slice B m d] w fun e w' => e = .returned (.bool true) ∧ Below w.heap.size w w' := by
  unfold maxLen at hn hm
  have h' : (20 : Int) < (n : Int) ∨ (¬ (20 : Int) < (n : Int) ∧ (200 : Int) < (m : Int)) := by omega
  clear ho
  unfold sval
  rcases h' with h1 | ⟨h1, h2⟩
  all_goals
    go_enter Try.func5, Try.ntmps5
    go_wp2_with (go_at_call 9; refine (awake_any _).mono ?_; rintro e w' ⟨rfl, hb⟩)
    go_ret
    exact ⟨rfl, ((Below.refl w.heap.size w).alloc (Nat.le_refl _) _).trans (hb.mono (by simp))⟩

set_option maxHeartbeats 8000000 in
set_option maxRecDepth 100000 in
theorem stells_in (s : Shelf) (A B : Option Addr) (n c m d : Nat) (p : List UInt8) (w : World) (h : ReadsE w A n s.ents) (g : Reads8 w B m p) (hn : n ≤ 20) (hm : m ≤ 200) (hmd : m ≤ d) :
    Calls Try.prog 5 #[sval s A n c, .slice B m d] w fun e w' => e = .returned (.bool true) ∧ Below w.heap.size w w' := by
  have HL := Lib.hid h.1
  have HR := Lib.hid h; clear h
  have HG := Lib.hid g; clear g
  have hn20 : ¬ (20 : Int) < (n : Int) := by omega
  have hm20 : ¬ (200 : Int) < (m : Int) := by omega
  obtain ⟨W0, hW0⟩ : ∃ W0 : World, W0 = w.alloc (.cells #[.int .u8 (s.depth.toNat : Int), .int .u32 (s.next.toNat : Int), .slice A n c] 25) := ⟨_, rfl⟩
  have b0 : Below w.heap.size w W0 := by rw [hW0]; exact (Below.refl _ w).alloc (Nat.le_refl _) _
  have s0 : BoxS W0 w.heap.size s A n c := by rw [hW0]; exact BoxS.new w s A n c HR.out
  obtain ⟨W1, hW1⟩ : ∃ W1 : World, W1 = W0.alloc (.cells #[.int .u8 (s.depth.toNat : Int), .int .u32 (s.next.toNat : Int), .slice A n c] 25) := ⟨_, rfl⟩
  have b1 : Below W0.heap.size W0 W1 := by rw [hW1]; exact (Below.refl _ _).alloc (Nat.le_refl _) _
  have x1 : MemC W1 W0.heap.size 0 [.int .u8 (s.depth.toNat : Int), .int .u32 (s.next.toNat : Int), .slice A n c] := by rw [hW1]; exact MemC.new W0 [.int .u8 (s.depth.toNat : Int), .int .u32 (s.next.toNat : Int), .slice A n c] 25
  have B1 := Lib.hid (b0.trans (b1.mono b0.size))
  have B0 := Lib.hid b0
  have Q1 := Lib.hid b1
  have HG0 := Lib.hid (HG.out.keep b0)
  have S0 := Lib.hid s0
  have S1 := Lib.hid (s0.keep b1)
  have X1 := Lib.hid x1
  have Z1 : Hid (w.heap.size < W0.heap.size ∧ W0.heap.size < W1.heap.size) := Lib.hid ⟨s0.mem.at_.lt, x1.at_.lt⟩
  have HW0 := Lib.hid hW0
  have HW1 := Lib.hid hW1
  clear b0 s0 b1 x1 hW0 hW1
  obtain ⟨a0, a1, a2⟩ := S0.out.cells
  unfold sval
  go_enter Try.func5, Try.ntmps5
  go_upto_region 1 with fail
  rw [← HW0.out]
  go_upto_region 4 with fail
  rw [← HW1.out]
  clear HW0 HW1 a0 a1 a2
  obtain ⟨a0, a1, a2⟩ := S1.out.cells
  obtain ⟨x2, xf2⟩ := X1.out.get 2 _ rfl
  have ls := S1.out.mem.at_.lt
  go_wp2_with (at_builtin; refine wpList_appendC rfl _ _ 23 rfl W1.heap.size 37 (.agg #[.int .u64 0, .int .u32 0]) 2 16 Try.underlying23 entinfo rfl (by omega) _ 0 [] rfl (World.ownsRow_lit W1 #[] 0 (Nat.le_refl _) (Nat.zero_le _) rfl) A n c (ecells s.ents) rfl (by rw [ecells_length, HL.out]) (S1.out.rd.2.keep ((Below.refl _ _).alloc (Nat.le_refl _) _)) (ecells_one _) (by simp only [maxLen]; omega) (by omega) (by simp) ?_)
  intro v w2 hown hgrow hnil hat
  have hb : Below W1.heap.size W1 w2 := ((Below.refl _ _).alloc (Nat.le_refl _) _).grown hgrow (by simp) (by intro k hk; simp [Value.ownBlock] at hk; omega)
  obtain ⟨A1, c1, rfl, r1, hc1, hm1⟩ := own_readsE hown
  have rc := (hb.cell (p := ⟨W0.heap.size, 2, none⟩) Z1.out.2).trans x2
  have rf := (hb.frozen (p := ⟨W0.heap.size, 2, none⟩) Z1.out.2).trans xf2
  obtain ⟨W3, hW3⟩ : ∃ W3 : World, W3 = w2.setCell ⟨W0.heap.size, 2, none⟩ (.slice A1 n c1) := ⟨_, rfl⟩
  have o3 : Only w2 W3 W0.heap.size W0.heap.size := by rw [hW3]; exact Only.set _ _ _ _ _
  have hX : MemC W3 W0.heap.size 0 [.int .u8 (s.depth.toNat : Int), .int .u32 (s.next.toNat : Int), .slice A1 n c1] := by rw [hW3]; exact (X1.out.keep hb).setAt 2 (by simp) _
  have hown3 := own_only hown o3 Z1.out.2 Z1.out.2
  obtain ⟨A1', c1', e1, r3, _, _⟩ := own_readsE hown3
  injection e1 with e1 _ e2
  subst e1
  subst e2
  have b3 : Below W0.heap.size W0 W3 := (Q1.out.trans (hb.mono (Nat.le_of_lt Z1.out.2))).trans (o3.below (Nat.le_refl _) (Nat.le_refl _))
  have T3 : Hid (BoxS W3 W0.heap.size s A1 n c1) := Lib.hid ⟨hX, r3⟩
  have S3 := Lib.hid (S0.out.keep b3)
  have HG3 := Lib.hid (HG0.out.keep b3)
  have B3 := Lib.hid (B0.out.trans (b3.mono B0.out.size))
  have HW3 := Lib.hid hW3
  clear hW3 o3 hX hown3 r3 b3 hown hgrow hnil hat hb r1 a0 a1 a2 x2 xf2 X1 S1 S0 HG0 HG Q1 B1 B0 hc1
  go_upto_region 5 with fail
  rw [← HW3.out]
  clear HW3 rc rf
  go_wp2_with fail
  refine (again_any B m d p _ HG3.out (by simp only [maxLen]; omega)).mono ?_
  rintro e w4 ⟨v, rfl, hF⟩
  obtain ⟨g4, d4, rfl, hg4, hd4, hdm4, hM4, hb⟩ := hF.open_ HG3.out.1
  have B4 := Lib.hid (B3.out.trans (hb.mono B3.out.size))
  have S4 := Lib.hid (S3.out.keep hb)
  have T4 := Lib.hid (T3.out.keep hb)
  have HG4 := Lib.hid (HG3.out.keep hb)
  have P4 := Lib.hid hM4.reads
  clear hF hb hM4 B3 S3 T3 HG3 hg4
  obtain ⟨x0, x1, x2⟩ := T4.out.cells
  go_wp2_with fail
  rw [sval_eq]
  refine (encode_u s A1 n c1 _ T4.out.rd (by simp only [maxLen]; omega)).mono ?_
  rintro e w5 ⟨A5, n5, c5, rfl, r5, hnc5, hb⟩
  have B5 := Lib.hid (B4.out.trans (hb.mono B4.out.size))
  have S5 := Lib.hid (S4.out.keep hb)
  have T5 := Lib.hid (T4.out.keep hb)
  have HG5 := Lib.hid (HG4.out.keep hb)
  have P5 := Lib.hid (P4.out.keep hb)
  have X5 := Lib.hid r5
  clear hb r5 B4 S4 T4 HG4 P4 x0 x1 x2
  obtain ⟨x0, x1, x2⟩ := S5.out.cells
  go_wp2_with fail
  rw [sval_eq]
  refine (rencode_u s A n c _ S5.out.rd (by simp only [maxLen]; omega)).mono ?_
  rintro e w6 ⟨A6, n6, c6, rfl, r6, hnc6, hb⟩
  have B6 := Lib.hid (B5.out.trans (hb.mono B5.out.size))
  have S6 := Lib.hid (S5.out.keep hb)
  have T6 := Lib.hid (T5.out.keep hb)
  have HG6 := Lib.hid (HG5.out.keep hb)
  have P6 := Lib.hid (P5.out.keep hb)
  have X6 := Lib.hid (X5.out.keep hb)
  have Y6 := Lib.hid r6
  clear hb r6 B5 S5 T5 HG5 P5 X5 x0 x1 x2
  go_wp2_with fail
  refine (decode_any _ m d4 p _ P6.out (by simp only [maxLen]; omega) hd4).mono ?_
  rintro e w7 hD
  obtain ⟨A7, n7, c7, rfl, r7, hn7, hb⟩ := hD.all
  obtain ⟨W7, hW7⟩ : ∃ W7 : World, W7 = w7.alloc (.cells #[.int .u8 ((decSh p).depth.toNat : Int), .int .u32 ((decSh p).next.toNat : Int), .slice A7 n7 c7] 25) := ⟨_, rfl⟩
  have b7 : Below w7.heap.size w7 W7 := by rw [hW7]; exact (Below.refl _ _).alloc (Nat.le_refl _) _
  have B7 := Lib.hid (B6.out.trans ((hb.trans (b7.mono hb.size)).mono B6.out.size))
  have S7 := Lib.hid ((S6.out.keep hb).keep b7)
  have T7 := Lib.hid ((T6.out.keep hb).keep b7)
  have HG7 := Lib.hid ((HG6.out.keep hb).keep b7)
  have P7 := Lib.hid ((P6.out.keep hb).keep b7)
  have X7 := Lib.hid ((X6.out.keep hb).keep b7)
  have Y7 := Lib.hid ((Y6.out.keep hb).keep b7)
  have U7 : Hid (BoxS W7 w7.heap.size (decSh p) A7 n7 c7) := Lib.hid (by rw [hW7]; exact BoxS.new w7 (decSh p) A7 n7 c7 r7)
  have HW7 := Lib.hid hW7
  clear hD hb b7 hW7 r7 B6 S6 T6 HG6 P6 X6 Y6
  go_upto_region 9 with fail
  rw [← HW7.out]
  clear HW7
  go_wp2_with fail
  refine (rdecode_any B m d p _ HG7.out (by simp only [maxLen]; omega) hmd).mono ?_
  rintro e w8 hD
  obtain ⟨A8, n8, c8, rfl, r8, hn8, hb⟩ := hD.all
  obtain ⟨W8, hW8⟩ : ∃ W8 : World, W8 = w8.alloc (.cells #[.int .u8 ((decSh p).depth.toNat : Int), .int .u32 ((decSh p).next.toNat : Int), .slice A8 n8 c8] 25) := ⟨_, rfl⟩
  have b8 : Below w8.heap.size w8 W8 := by rw [hW8]; exact (Below.refl _ _).alloc (Nat.le_refl _) _
  have B8 := Lib.hid (B7.out.trans ((hb.trans (b8.mono hb.size)).mono B7.out.size))
  have S8 := Lib.hid ((S7.out.keep hb).keep b8)
  have T8 := Lib.hid ((T7.out.keep hb).keep b8)
  have HG8 := Lib.hid ((HG7.out.keep hb).keep b8)
  have P8 := Lib.hid ((P7.out.keep hb).keep b8)
  have X8 := Lib.hid ((X7.out.keep hb).keep b8)
  have Y8 := Lib.hid ((Y7.out.keep hb).keep b8)
  have U8 := Lib.hid ((U7.out.keep hb).keep b8)
  have V8 : Hid (BoxS W8 w8.heap.size (decSh p) A8 n8 c8) := Lib.hid (by rw [hW8]; exact BoxS.new w8 (decSh p) A8 n8 c8 r8)
  have HW8 := Lib.hid hW8
  clear hD hb b8 hW8 r8 B7 S7 T7 HG7 P7 X7 Y7 U7
  go_upto_region 10 with fail
  rw [← HW8.out]
  clear HW8
  have L5 : n5 = n6 := X8.out.1.symm.trans Y8.out.1
  have L7 : n7 = n8 := U8.out.rd.1.symm.trans V8.out.rd.1
  subst L5
  subst L7
  generalize decSh p = D at *
  generalize encE s = E1 at *
  generalize decN p = E2 at *
  have hSall : ∀ w', Below W8.heap.size W8 w' → ((w'.cell? ⟨w.heap.size, 0, none⟩ = some (.int .u8 (s.depth.toNat : Int)) ∧ w'.cell? ⟨w.heap.size, 1, none⟩ = some (.int .u32 (s.next.toNat : Int)) ∧ w'.cell? ⟨w.heap.size, 2, none⟩ = some (.slice A n c)) ∧
      (w'.cell? ⟨W0.heap.size, 0, none⟩ = some (.int .u8 (s.depth.toNat : Int)) ∧ w'.cell? ⟨W0.heap.size, 1, none⟩ = some (.int .u32 (s.next.toNat : Int)) ∧ w'.cell? ⟨W0.heap.size, 2, none⟩ = some (.slice A1 n c1)) ∧
      (w'.cell? ⟨w7.heap.size, 0, none⟩ = some (.int .u8 (D.depth.toNat : Int)) ∧ w'.cell? ⟨w7.heap.size, 1, none⟩ = some (.int .u32 (D.next.toNat : Int)) ∧ w'.cell? ⟨w7.heap.size, 2, none⟩ = some (.slice A7 n7 c7)) ∧
      (w'.cell? ⟨w8.heap.size, 0, none⟩ = some (.int .u8 (D.depth.toNat : Int)) ∧ w'.cell? ⟨w8.heap.size, 1, none⟩ = some (.int .u32 (D.next.toNat : Int)) ∧ w'.cell? ⟨w8.heap.size, 2, none⟩ = some (.slice A8 n7 c8))) := fun w' hb =>
    ⟨(S8.out.keep hb).cells, (T8.out.keep hb).cells, (U8.out.keep hb).cells, (V8.out.keep hb).cells⟩
  have HS := Lib.hid hSall
  have HB := Lib.hid (Below.refl W8.heap.size W8)
  obtain ⟨⟨p0, p1, p2⟩, ⟨p3, p4, p5⟩, ⟨p6, p7, p8⟩, p9, p10, p11⟩ := hSall W8 (Below.refl _ _)
  clear hSall
  go_region_held3 (fun w' => (w'.cell? ⟨w.heap.size, 0, none⟩ = some (.int .u8 (s.depth.toNat : Int)) ∧ w'.cell? ⟨w.heap.size, 1, none⟩ = some (.int .u32 (s.next.toNat : Int)) ∧ w'.cell? ⟨w.heap.size, 2, none⟩ = some (.slice A n c)) ∧
      (w'.cell? ⟨W0.heap.size, 0, none⟩ = some (.int .u8 (s.depth.toNat : Int)) ∧ w'.cell? ⟨W0.heap.size, 1, none⟩ = some (.int .u32 (s.next.toNat : Int)) ∧ w'.cell? ⟨W0.heap.size, 2, none⟩ = some (.slice A1 n c1)) ∧
      (w'.cell? ⟨w7.heap.size, 0, none⟩ = some (.int .u8 (D.depth.toNat : Int)) ∧ w'.cell? ⟨w7.heap.size, 1, none⟩ = some (.int .u32 (D.next.toNat : Int)) ∧ w'.cell? ⟨w7.heap.size, 2, none⟩ = some (.slice A7 n7 c7)) ∧
      (w'.cell? ⟨w8.heap.size, 0, none⟩ = some (.int .u8 (D.depth.toNat : Int)) ∧ w'.cell? ⟨w8.heap.size, 1, none⟩ = some (.int .u32 (D.next.toNat : Int)) ∧ w'.cell? ⟨w8.heap.size, 2, none⟩ = some (.slice A8 n7 c8)))
    (first | exact HS.out _ HB.out | exact HS.out _ HB.out.drew)
    ((first
      | (go_at_call 16; refine (equal_any A5 A6 n5 n5 c5 c6 (encL s) (encL s) _ (X8.out.keep (HB.out.drew)) (Y8.out.keep (HB.out.drew))).mono ?_; rintro e w' ⟨rfl, rfl⟩; rw [show same8 (encL s) (encL s) = true from same8_iff.2 rfl]; have HB := Lib.hid HB.out.drew)
      | (go_at_call 12; refine (eqs_any D D A7 A8 n7 n7 c7 c8 _ (U8.out.keep HB.out).rd (V8.out.keep HB.out).rd (by simp only [maxLen] at hn7 ⊢; omega) (by simp only [maxLen] at hn7 ⊢; omega)).mono ?_; rintro e w' ⟨rfl, hb⟩; rw [show sameS D D = true from sameS_iff.2 rfl]; have HB := Lib.hid (HB.out.trans (hb.mono HB.out.size)); clear hb)
      | (go_at_call 8; refine (right_any s A1 n c1 _ (T8.out.keep HB.out).rd (by simp only [maxLen]; omega)).mono ?_; rintro e w' ⟨rfl, hb⟩; have HB := Lib.hid (HB.out.trans (hb.mono HB.out.size)); clear hb)
      | (go_at_call 17; refine (rright_any s A n c _ (S8.out.keep HB.out).rd (by simp only [maxLen]; omega)).mono ?_; rintro e w' ⟨rfl, hb⟩; have HB := Lib.hid (HB.out.trans (hb.mono HB.out.size)); clear hb)))
  all_goals
    have HB2 := HB
    clear HB p0 p1 p2 p3 p4 p5 p6 p7 p8 p9 p10 p11
    obtain ⟨⟨p0, p1, p2⟩, ⟨p3, p4, p5⟩, _, _⟩ := HS.out _ HB2.out
    go_wp2_with fail
    rw [sval_eq]
    refine (eqs_any s s A1 A n n c1 c _ (T8.out.keep HB2.out).rd (S8.out.keep HB2.out).rd (by simp only [maxLen]; omega) (by simp only [maxLen]; omega)).mono ?_
    rintro e w9 ⟨rfl, hb⟩
    rw [show sameS s s = true from sameS_iff.2 rfl]
    have HB3 := Lib.hid (HB2.out.trans (hb.mono HB2.out.size)); clear hb
    clear p0 p1 p2 p3 p4 p5
    go_wp2_with fail
    refine (equal_any _ _ m m d4 d _ _ _ (P8.out.keep HB3.out) (HG8.out.keep HB3.out)).mono ?_
    rintro e w' ⟨rfl, rfl⟩
    rw [show same8 p p = true from same8_iff.2 rfl]
    go_wp2_with fail
    refine (awake_any _).mono ?_
    rintro e w' ⟨rfl, hb⟩
    have HB4 := Lib.hid (HB3.out.trans (hb.mono HB3.out.size)); clear hb
    go_wp2_with fail
    go_ret
    exact ⟨rfl, B8.out.trans (HB4.out.mono B8.out.size)⟩

theorem lawTellsS (s : Shelf) (A B : Option Addr) (n c m d : Nat) (p : List UInt8) (w : World) (h : ReadsE w A n s.ents) (hnc : n ≤ c) (hcm : c ≤ maxLen) (g : Reads8 w B m p) (hmd : m ≤ d) (hdm : d ≤ maxLen) :
    Calls Try.prog 5 #[sval s A n c, .slice B m d] w fun e w' => e = .returned (.bool true) ∧ Below w.heap.size w w' := by
  by_cases ho : 20 < n ∨ 200 < m
  · exact stells_out s A B n c m d w (Nat.le_trans hnc hcm) (Nat.le_trans hmd hdm) ho
  · exact stells_in s A B n c m d p w h g (by omega) (by omega) hmd

end Go.Proofs.Ytcljobkdihbflaa
