/-
  DirWrong: the walk where the directory is right.
-/
import Derived.Test.YtlkmcjjdjbdihaaDrCopy
import Derived.Test.YtlkmcjjdjbdihaaDrWrP
import Derived.Test.YtlkmcjjdjbdihaaDrLWr
namespace Go.Proofs.Ytlkmcjjdjbdihaa
open Go.RowKit Go.Maps
set_option linter.unusedVariables false
set_option linter.unusedSimpArgs false
attribute [local go_sem ↓] Go.wp_at_zero Go.wp_at_succ

theorem own_nil16' (X : World) (o : Obj) : ((X.alloc o).alloc (.cells #[] 26)).ownsRow X.heap.size 26 1 (.slice (some ⟨X.heap.size + 1, 0, none⟩) 0 0) 0 [] := by
  have h := own_base_mono (own_nil16 (X.alloc o)) (base' := X.heap.size) (by simp)
  simpa using h

set_option maxHeartbeats 8000000 in
set_option maxRecDepth 100000 in
theorem wrong_good (d : Dir) (bd od n c x y i k l1 l2 i2 k2 : Nat) (w : World) (h : ReadsW w (some ⟨bd, od, none⟩) n d.slots) (K1 : Hid (rightB d = true)) (K2 : Hid (bucketE d (i : Int) = 0)) (K3 : Hid (bucketE d (k : Int) = 0))
    (K4 : Hid ((bucketL d (i : Int)).length = l1)) (K5 : Hid ((bucketL d (k : Int)).length = l2)) (e1 : (x : Int) % (n : Int) = (i : Int)) (e2 : (y : Int) % (n : Int) = (k : Int)) (lx : x < 256) (ly : y < 256) (hn256 : n ≤ 256) (n0 : ¬ n = 0) (hi : i < n) (hk : k < n)
    (ei : (i : Int) / 2 = (i2 : Int)) (ek : (k : Int) / 2 = (k2 : Int)) (li2 : i2 ≤ 256) (lk2 : k2 ≤ 256)
    (HJ : Hid (at_ d.slots i ≠ at_ d.slots k → rightB (badD d i k) = decide (l1 = 1 ∧ l2 = 1 ∧ i2 = k2))) :
    Calls Try.prog 8 #[dval d (some ⟨bd, od, none⟩) n c, .int .u8 (x : Int), .int .u8 (y : Int)] w fun e w' => e = .returned (.bool true) ∧ Below w.heap.size w w' := by
  have hn : n ≤ maxLen := Nat.le_trans hn256 (by decide)
  have HNM : Hid (n ≤ 1024) := Lib.hid (Nat.le_trans hn256 (by decide))
  have HN0 : Hid (¬ n = 0) := Lib.hid n0
  have HL := Lib.hid h.1
  have hi1 : ¬ (256 : Int) < (n : Int) := by omega
  have HR := Lib.hid h; clear h
  have HI := Lib.hid hi
  have HK := Lib.hid hk
  have a4 : (0 : Int) ≤ (i : Int) := Int.natCast_nonneg _
  have a5 : (i : Int) < (n : Int) := Int.ofNat_lt.2 hi
  have a6 : (0 : Int) ≤ (k : Int) := Int.natCast_nonneg _
  have a7 : (k : Int) < (n : Int) := Int.ofNat_lt.2 hk
  have z1 := (wrap_small (Nat.le_trans (Nat.le_of_lt hi) (Nat.le_trans hn256 (by decide)))).1
  have z2 := (wrap_small (Nat.le_trans (Nat.le_of_lt hi) (Nat.le_trans hn256 (by decide)))).2
  have z3 := (wrap_small (Nat.le_trans (Nat.le_of_lt hk) (Nat.le_trans hn256 (by decide)))).1
  have z4 := (wrap_small (Nat.le_trans (Nat.le_of_lt hk) (Nat.le_trans hn256 (by decide)))).2
  have z5 := (wrap_small (Nat.le_trans li2 (show 256 ≤ 512 by decide))).1
  have z6 := (wrap_small (Nat.le_trans li2 (show 256 ≤ 512 by decide))).2
  have z7 := (wrap_small (Nat.le_trans lk2 (show 256 ≤ 512 by decide))).1
  have z8 := (wrap_small (Nat.le_trans lk2 (show 256 ≤ 512 by decide))).2
  obtain ⟨W0, hW0⟩ : ∃ W0 : World, W0 = w.alloc (.cells #[.int .u8 (d.depth.toNat : Int), .slice (some ⟨bd, od, none⟩) n c] 24) := ⟨_, rfl⟩
  have B0 : Hid (Below w.heap.size w W0) := Lib.hid (by rw [hW0]; exact (Below.refl _ w).alloc (Nat.le_refl _) _)
  have S0 : Hid (BoxD W0 w.heap.size d (some ⟨bd, od, none⟩) n c) := Lib.hid (by rw [hW0]; exact BoxD.new w d _ n c HR.out)
  have HW := Lib.hid hW0; clear hW0
  obtain ⟨a0, a1⟩ := S0.out.cells
  unfold dval
  go_enter Try.func8, Try.ntmps8
  go_upto_region 1 with fail
  rw [← HW.out]
  clear HW
  go_wp2_with fail
  rw [dval_eq]
  refine (right_any d _ n c _ S0.out.rd hn).mono ?_
  rintro e w1 ⟨rfl, hb⟩
  rw [K1.out]
  have B1 := Lib.hid (B0.out.trans (hb.mono B0.out.size))
  have S1 := Lib.hid (S0.out.keep hb)
  clear hb a0 a1
  obtain ⟨a0, a1⟩ := S1.out.cells
  unfold dval
  go_upto_region 11 with fail
  go_quiet (fail)
  rw [e1, e2]
  obtain ⟨u, hu⟩ : ∃ u : Int, u = ((at_ d.slots i).toNat : Int) := ⟨_, rfl⟩
  obtain ⟨v, hv⟩ : ∃ v : Int, v = ((at_ d.slots k).toNat : Int) := ⟨_, rfl⟩
  have c1 := S1.out.rd.at' HI.out
  have c2 := S1.out.rd.at' HK.out
  rw [← hu] at c1
  rw [← hv] at c2
  by_cases huv : u = v
  · have q1 : (u == v) = true := beq_iff_eq.2 huv
    have q2 : (u = v) = True := eq_true huv
    clear huv hu hv
    go_upto_region 12 with fail
    go_quiet (fail)
    go_wp2_with fail
    refine (awake_any _).mono ?_
    rintro e u4 ⟨rfl, hb1⟩
    have C4 := Lib.hid ((below_dN B1.out _).trans (hb1.mono B1.out.size))
    clear hb1
    go_wp2_with fail
    go_ret
    exact ⟨rfl, C4.out⟩
  · have q1 : (u == v) = false := beq_eq_false_iff_ne.2 huv
    have q2 : (u = v) = False := eq_false huv
    have hj := HJ.out (fun e => huv (by rw [hu, hv, e]))
    have HV := Lib.hid hv
    have HJ2 := Lib.hid hj
    clear huv hu hv hj
    go_upto_region 12 with fail
    go_quiet (fail)
    go_upto_region 14 with fail
    go_wp2_with fail
    rw [dval_eq]
    refine (Bucket_any d _ n c (i : Int) _ (S1.out.rd.keep (bdn _ _)) hn).mono ?_
    rintro e w2 ⟨v2, rfl, hown, hb⟩
    obtain ⟨A2, g2, rfl, _, _, _⟩ := own_readsI hown
    rw [K4.out, K2.out]
    have hb2 : Below w1.heap.size w1 w2 := (bdn w1 _).trans hb
    have B2 := Lib.hid (B1.out.trans (hb2.mono B1.out.size))
    have S2 := Lib.hid (S1.out.keep hb2)
    clear hown hb hb2 a0 a1 c1 c2
    obtain ⟨a0, a1⟩ := S2.out.cells
    unfold dval
    go_wp2_with fail
    rw [dval_eq]
    refine (Bucket_any d _ n c (k : Int) _ S2.out.rd hn).mono ?_
    rintro e w3 ⟨v3, rfl, hown, hb⟩
    obtain ⟨A3, g3, rfl, _, _, _⟩ := own_readsI hown
    rw [K5.out, K3.out]
    have B3 := Lib.hid (B2.out.trans (hb.mono B2.out.size))
    have S3 := Lib.hid (S2.out.keep hb)
    clear hown hb a0 a1
    obtain ⟨a0, a1⟩ := S3.out.cells
    go_upto_region 18 with fail
    have HS := Lib.hid (fun w' (hb : Below w3.heap.size w3 w') => show w'.cell? ⟨w.heap.size, 0, none⟩ = some (.int .u8 (d.depth.toNat : Int)) ∧ w'.cell? ⟨w.heap.size, 1, none⟩ = some (.slice (some ⟨bd, od, none⟩) n c) from (S3.out.keep hb).cells)
    have HB := Lib.hid (Below.refl w3.heap.size w3)
    go_cut [25] from 167 (fun s9 wx => ∃ (P : Nat) (A9 : Option Addr) (c9 : Nat), s9 = .pointer (some ⟨P, 0, none⟩) ∧ MemC wx P 0 [.int .u8 (d.depth.toNat : Int), .slice A9 n c9] ∧ OwnW wx w3.heap.size A9 n c9 d.slots ∧ (∀ a, A9 = some a → a.block ≠ P) ∧ w3.heap.size ≤ P ∧ Below w3.heap.size w3 wx)
    case first =>
      go_region_held3 (fun w' => w'.cell? ⟨w.heap.size, 0, none⟩ = some (.int .u8 (d.depth.toNat : Int)) ∧ w'.cell? ⟨w.heap.size, 1, none⟩ = some (.slice (some ⟨bd, od, none⟩) n c))
        ((refine HS.out _ ?_; (repeat' (first | exact HB.out | exact Below.refl _ _ | refine Below.drew ?_ | refine Below.alloc ?_ (by first | exact HB.out.size | exact Nat.le_refl _ | (simp; done) | (have := HB.out.size; simp at this ⊢; omega)) _ | refine Below.setCell ?_ (by first | exact Nat.le_refl _ | exact HB1.out | (simp; done) | (simp; omega)) _))))
        ((first
          | (refine step_appendC (by rfl) _ _ 22 (by rfl) w3.heap.size 26 (.int .u16 0) 1 2 Try.underlying22 u16info rfl (by omega) (.slice (some ⟨w3.heap.size, 0, none⟩) 0 0) 0 [] (by rfl) ?_ (some ⟨bd, od, none⟩) n c (wcells d.slots) (by rfl) ?_ ?_ (wcells_one _) ?_ ?_ ?_ ?_; (exact own_nil16 w3); (rw [wcells_length, Nat.mul_one]; exact HL.out); exact (S3.out.rd.keep (show Below w3.heap.size w3 _ from by (repeat' (first | exact HB.out | exact Below.refl _ _ | refine Below.drew ?_ | refine Below.alloc ?_ (by first | exact HB.out.size | exact Nat.le_refl _ | (simp; done) | (have := HB.out.size; simp at this ⊢; omega)) _ | refine Below.setCell ?_ (by first | exact Nat.le_refl _ | exact HB1.out | (simp; done) | (simp; omega)) _)))).2; (have := HNM.out; simp only [maxLen]; omega); (have := HNM.out; omega); exact (show Below w3.heap.size w3 _ from by (repeat' (first | exact HB.out | exact Below.refl _ _ | refine Below.drew ?_ | refine Below.alloc ?_ (by first | exact HB.out.size | exact Nat.le_refl _ | (simp; done) | (have := HB.out.size; simp at this ⊢; omega)) _ | refine Below.setCell ?_ (by first | exact Nat.le_refl _ | exact HB1.out | (simp; done) | (simp; omega)) _))).size; intro v1 w1' hown1 hgrow1 hnil1 hat1; obtain ⟨A9, c9, rfl, hw9⟩ := own_OwnW (l := d.slots) (n := n) (by rw [Nat.zero_add] at hown1; exact hown1); have OW := Lib.hid hw9; have HB := Lib.hid (show Below w3.heap.size w3 w1' from ((show Below w3.heap.size w3 _ from by (repeat' (first | exact HB.out | exact Below.refl _ _ | refine Below.drew ?_ | refine Below.alloc ?_ (by first | exact HB.out.size | exact Nat.le_refl _ | (simp; done) | (have := HB.out.size; simp at this ⊢; omega)) _ | refine Below.setCell ?_ (by first | exact Nat.le_refl _ | exact HB1.out | (simp; done) | (simp; omega)) _)))).grown hgrow1 (show Below w3.heap.size w3 _ from by (repeat' (first | exact HB.out | exact Below.refl _ _ | refine Below.drew ?_ | refine Below.alloc ?_ (by first | exact HB.out.size | exact Nat.le_refl _ | (simp; done) | (have := HB.out.size; simp at this ⊢; omega)) _ | refine Below.setCell ?_ (by first | exact Nat.le_refl _ | exact HB1.out | (simp; done) | (simp; omega)) _))).size (fun q hq => by simp [Value.ownBlock] at hq; omega)); have HB1 := Lib.hid HB.out.size; clear hown1 hgrow1 hnil1 hat1 hw9)
          | (refine step_appendC (by rfl) _ _ 22 (by rfl) w3.heap.size 26 (.int .u16 0) 1 2 Try.underlying22 u16info rfl (by omega) (.slice (some ⟨w3.heap.size + 1, 0, none⟩) 0 0) 0 [] (by rfl) ?_ (some ⟨bd, od, none⟩) n c (wcells d.slots) (by rfl) ?_ ?_ (wcells_one _) ?_ ?_ ?_ ?_; (exact own_nil16' w3 _); (rw [wcells_length, Nat.mul_one]; exact HL.out); exact (S3.out.rd.keep (show Below w3.heap.size w3 _ from by (repeat' (first | exact HB.out | exact Below.refl _ _ | refine Below.drew ?_ | refine Below.alloc ?_ (by first | exact HB.out.size | exact Nat.le_refl _ | (simp; done) | (have := HB.out.size; simp at this ⊢; omega)) _ | refine Below.setCell ?_ (by first | exact Nat.le_refl _ | exact HB1.out | (simp; done) | (simp; omega)) _)))).2; (have := HNM.out; simp only [maxLen]; omega); (have := HNM.out; omega); exact (show Below w3.heap.size w3 _ from by (repeat' (first | exact HB.out | exact Below.refl _ _ | refine Below.drew ?_ | refine Below.alloc ?_ (by first | exact HB.out.size | exact Nat.le_refl _ | (simp; done) | (have := HB.out.size; simp at this ⊢; omega)) _ | refine Below.setCell ?_ (by first | exact Nat.le_refl _ | exact HB1.out | (simp; done) | (simp; omega)) _))).size; intro v1 w1' hown1 hgrow1 hnil1 hat1; obtain ⟨A9, c9, rfl, hw9⟩ := own_OwnW (l := d.slots) (n := n) (by rw [Nat.zero_add] at hown1; exact hown1); have OW := Lib.hid hw9; have NE : Hid (∀ a, A9 = some a → a.block ≠ w3.heap.size) := Lib.hid (fun a ha => by rw [ha] at hat1; simp [Value.ownBlock] at hat1; omega); have m4 : MemC w1' (w3.heap.size) 0 [.int .u8 0, .slice none 0 0] := (MemC.grown (M := w3.heap.size + 1) (by first | exact ((MemC.new w3 [.int .u8 0, .slice none 0 0] 24).keep ((Below.refl _ _).alloc (Nat.le_refl _) (.cells #[] 26))) | exact MemC.drew (by have := ((MemC.new w3 [.int .u8 0, .slice none 0 0] 24).keep ((Below.refl _ _).alloc (Nat.le_refl _) (.cells #[] 26))); simpa using this)) hgrow1 (by simp)); have M4 := Lib.hid m4; obtain ⟨k0, kf0⟩ := m4.get 0 _ rfl; obtain ⟨k1, kf1⟩ := m4.get 1 _ rfl; clear m4; have HB := Lib.hid (show Below w3.heap.size w3 w1' from ((show Below w3.heap.size w3 _ from by (repeat' (first | exact HB.out | exact Below.refl _ _ | refine Below.drew ?_ | refine Below.alloc ?_ (by first | exact HB.out.size | exact Nat.le_refl _ | (simp; done) | (have := HB.out.size; simp at this ⊢; omega)) _ | refine Below.setCell ?_ (by first | exact Nat.le_refl _ | exact HB1.out | (simp; done) | (simp; omega)) _)))).grown hgrow1 (show Below w3.heap.size w3 _ from by (repeat' (first | exact HB.out | exact Below.refl _ _ | refine Below.drew ?_ | refine Below.alloc ?_ (by first | exact HB.out.size | exact Nat.le_refl _ | (simp; done) | (have := HB.out.size; simp at this ⊢; omega)) _ | refine Below.setCell ?_ (by first | exact Nat.le_refl _ | exact HB1.out | (simp; done) | (simp; omega)) _))).size (fun q hq => by simp [Value.ownBlock] at hq; omega)); have HB1 := Lib.hid HB.out.size; clear hown1 hgrow1 hnil1 hat1 hw9)
          | (refine step_appendC (by rfl) _ _ 22 (by rfl) w3.heap.size 26 (.int .u16 0) 1 2 Try.underlying22 u16info rfl (by omega) (.slice (some ⟨w3.heap.size, 0, none⟩) 0 0) 0 [] (by rfl) ?_ (some ⟨bd, od, none⟩) n c (wcells d.slots) (by rfl) ?_ ?_ (wcells_one _) ?_ ?_ ?_ ?_; (exact (own_nil16 w3).alloc _); (rw [wcells_length, Nat.mul_one]; exact HL.out); exact (S3.out.rd.keep (show Below w3.heap.size w3 _ from by (repeat' (first | exact HB.out | exact Below.refl _ _ | refine Below.drew ?_ | refine Below.alloc ?_ (by first | exact HB.out.size | exact Nat.le_refl _ | (simp; done) | (have := HB.out.size; simp at this ⊢; omega)) _ | refine Below.setCell ?_ (by first | exact Nat.le_refl _ | exact HB1.out | (simp; done) | (simp; omega)) _)))).2; (have := HNM.out; simp only [maxLen]; omega); (have := HNM.out; omega); exact (show Below w3.heap.size w3 _ from by (repeat' (first | exact HB.out | exact Below.refl _ _ | refine Below.drew ?_ | refine Below.alloc ?_ (by first | exact HB.out.size | exact Nat.le_refl _ | (simp; done) | (have := HB.out.size; simp at this ⊢; omega)) _ | refine Below.setCell ?_ (by first | exact Nat.le_refl _ | exact HB1.out | (simp; done) | (simp; omega)) _))).size; intro v1 w1' hown1 hgrow1 hnil1 hat1; obtain ⟨A9, c9, rfl, hw9⟩ := own_OwnW (l := d.slots) (n := n) (by rw [Nat.zero_add] at hown1; exact hown1); have OW := Lib.hid hw9; have NE : Hid (∀ a, A9 = some a → a.block ≠ w3.heap.size + 1) := Lib.hid (fun a ha => by rw [ha] at hat1; simp [Value.ownBlock] at hat1; omega); have m4 : MemC w1' (w3.heap.size + 1) 0 [.int .u8 0, .slice none 0 0] := (MemC.grown (M := w3.heap.size) (by first | exact (MemC.new (w3.alloc (.cells #[] 26)) [.int .u8 0, .slice none 0 0] 24) | exact MemC.drew (by have := (MemC.new (w3.alloc (.cells #[] 26)) [.int .u8 0, .slice none 0 0] 24); simpa using this)) hgrow1 (by simp)); have M4 := Lib.hid m4; obtain ⟨k0, kf0⟩ := m4.get 0 _ rfl; obtain ⟨k1, kf1⟩ := m4.get 1 _ rfl; clear m4; have HB := Lib.hid (show Below w3.heap.size w3 w1' from ((show Below w3.heap.size w3 _ from by (repeat' (first | exact HB.out | exact Below.refl _ _ | refine Below.drew ?_ | refine Below.alloc ?_ (by first | exact HB.out.size | exact Nat.le_refl _ | (simp; done) | (have := HB.out.size; simp at this ⊢; omega)) _ | refine Below.setCell ?_ (by first | exact Nat.le_refl _ | exact HB1.out | (simp; done) | (simp; omega)) _)))).grown hgrow1 (show Below w3.heap.size w3 _ from by (repeat' (first | exact HB.out | exact Below.refl _ _ | refine Below.drew ?_ | refine Below.alloc ?_ (by first | exact HB.out.size | exact Nat.le_refl _ | (simp; done) | (have := HB.out.size; simp at this ⊢; omega)) _ | refine Below.setCell ?_ (by first | exact Nat.le_refl _ | exact HB1.out | (simp; done) | (simp; omega)) _))).size (fun q hq => by simp [Value.ownBlock] at hq; omega)); have HB1 := Lib.hid HB.out.size; clear hown1 hgrow1 hnil1 hat1 hw9)
          | (go_at_call 11; have _m := M4; (first | (with_reducible refine (of_agg d _ n _ w1').mono ?_) | (with_reducible refine (of_agg d _ n _ w1'.drew).mono ?_)); rintro e u9 ⟨rfl, hb⟩; clear k0 kf0 k1 kf1 _m; have m5 := M4.out.keep ((show Below w1'.heap.size w1' _ from by (repeat' (first | exact Below.refl _ _ | refine Below.drew ?_ | refine Below.alloc ?_ (Nat.le_refl _) _))).trans (hb.mono (by first | exact Nat.le_refl _ | simp))); have M5 := Lib.hid m5; have NE5 := NE; obtain ⟨k0, kf0⟩ := m5.get 0 _ rfl; obtain ⟨k1, kf1⟩ := m5.get 1 _ rfl; have HB := Lib.hid (show Below w3.heap.size w3 u9 from below_then (show Below w3.heap.size w3 _ from by (repeat' (first | exact HB.out | exact Below.refl _ _ | refine Below.drew ?_ | refine Below.alloc ?_ (by first | exact HB.out.size | exact Nat.le_refl _ | (simp; done) | (have := HB.out.size; simp at this ⊢; omega)) _ | refine Below.setCell ?_ (by first | exact Nat.le_refl _ | exact HB1.out | (simp; done) | (simp; omega)) _))) hb (Nat.le_refl _)); have O3 := Lib.hid (OW.out.keep ((show Below w1'.heap.size w1' _ from by (repeat' (first | exact Below.refl _ _ | refine Below.drew ?_ | refine Below.alloc ?_ (Nat.le_refl _) _))).trans (hb.mono (by first | exact Nat.le_refl _ | simp)))); clear hb m5)
          | (go_at_call 11; (first | (with_reducible refine (of_agg d _ n _ (w1'.alloc (.cells #[.int .u8 0, .slice none 0 0] 24))).mono ?_) | (with_reducible refine (of_agg d _ n _ (w1'.alloc (.cells #[.int .u8 0, .slice none 0 0] 24)).drew).mono ?_)); rintro e u9 ⟨rfl, hb⟩; have m5 : MemC u9 w1'.heap.size 0 [.int .u8 0, .slice none 0 0] := (by first | exact (MemC.new w1' [.int .u8 0, .slice none 0 0] 24).keep hb | exact (MemC.new w1' [.int .u8 0, .slice none 0 0] 24).drew.keep hb); have M5 := Lib.hid m5; have NE5 : Hid (∀ a, A9 = some a → a.block ≠ w1'.heap.size) := Lib.hid (own_ne OW.out HN0.out); obtain ⟨k0, kf0⟩ := m5.get 0 _ rfl; obtain ⟨k1, kf1⟩ := m5.get 1 _ rfl; have HB := Lib.hid (show Below w3.heap.size w3 u9 from below_then (show Below w3.heap.size w3 _ from by (repeat' (first | exact HB.out | exact Below.refl _ _ | refine Below.drew ?_ | refine Below.alloc ?_ (by first | exact HB.out.size | exact Nat.le_refl _ | (simp; done) | (have := HB.out.size; simp at this ⊢; omega)) _ | refine Below.setCell ?_ (by first | exact Nat.le_refl _ | exact HB1.out | (simp; done) | (simp; omega)) _))) hb (Nat.le_refl _)); have O3 := Lib.hid (OW.out.keep ((show Below w1'.heap.size w1' _ from by (repeat' (first | exact Below.refl _ _ | refine Below.drew ?_ | refine Below.alloc ?_ (Nat.le_refl _) _))).trans (hb.mono (by first | exact Nat.le_refl _ | simp)))); clear hb m5)
          | (go_at_call 11; (first | (with_reducible refine (of_agg d _ n _ w1').mono ?_) | (with_reducible refine (of_agg d _ n _ w1'.drew).mono ?_)); rintro e u9 ⟨rfl, hb⟩; have HB := Lib.hid (show Below w3.heap.size w3 u9 from below_then (show Below w3.heap.size w3 _ from by (repeat' (first | exact HB.out | exact Below.refl _ _ | refine Below.drew ?_ | refine Below.alloc ?_ (by first | exact HB.out.size | exact Nat.le_refl _ | (simp; done) | (have := HB.out.size; simp at this ⊢; omega)) _ | refine Below.setCell ?_ (by first | exact Nat.le_refl _ | exact HB1.out | (simp; done) | (simp; omega)) _))) hb (Nat.le_refl _)); have O3 := Lib.hid (OW.out.keep ((show Below w1'.heap.size w1' _ from by (repeat' (first | exact Below.refl _ _ | refine Below.drew ?_ | refine Below.alloc ?_ (Nat.le_refl _) _))).trans (hb.mono (by first | exact Nat.le_refl _ | simp)))); clear hb)))
      all_goals
        go_wp2_with fail
        go_meet
        case rel =>
          first
            | exact ⟨u9.heap.size, A9, c9, rfl, MemC.new u9 [.int .u8 (d.depth.toNat : Int), .slice A9 n c9] 24, O3.out.keep ((Below.refl _ _).alloc (Nat.le_refl _) _), own_ne O3.out HN0.out, HB.out.size, HB.out.alloc HB.out.size _⟩
            | exact ⟨w3.heap.size, A9, c9, rfl, (M5.out.setAt 0 (by simp) (.int .u8 (d.depth.toNat : Int))).setAt 1 (by simp) (.slice A9 n c9), O3.out.only ((Only.set u9 (w3.heap.size) (w3.heap.size) 0 (.int .u8 (d.depth.toNat : Int))).trans (Only.set _ (w3.heap.size) (w3.heap.size) 1 (.slice A9 n c9))) (fun _ a ha => ⟨NE5.out a ha, NE5.out a ha⟩), NE5.out, (Nat.le_refl _), HB.out.trans (((Only.set u9 (w3.heap.size) (w3.heap.size) 0 (.int .u8 (d.depth.toNat : Int))).trans (Only.set _ (w3.heap.size) (w3.heap.size) 1 (.slice A9 n c9))).below (Nat.le_refl _) (Nat.le_refl _))⟩
            | exact ⟨w3.heap.size + 1, A9, c9, rfl, (M5.out.setAt 0 (by simp) (.int .u8 (d.depth.toNat : Int))).setAt 1 (by simp) (.slice A9 n c9), O3.out.only ((Only.set u9 (w3.heap.size + 1) (w3.heap.size + 1) 0 (.int .u8 (d.depth.toNat : Int))).trans (Only.set _ (w3.heap.size + 1) (w3.heap.size + 1) 1 (.slice A9 n c9))) (fun _ a ha => ⟨NE5.out a ha, NE5.out a ha⟩), NE5.out, (Nat.le_succ _), HB.out.trans (((Only.set u9 (w3.heap.size + 1) (w3.heap.size + 1) 0 (.int .u8 (d.depth.toNat : Int))).trans (Only.set _ (w3.heap.size + 1) (w3.heap.size + 1) 1 (.slice A9 n c9))).below (Nat.le_succ _) (Nat.le_succ _))⟩
            | exact ⟨w1'.heap.size, A9, c9, rfl, (M5.out.setAt 0 (by simp) (.int .u8 (d.depth.toNat : Int))).setAt 1 (by simp) (.slice A9 n c9), O3.out.only ((Only.set u9 (w1'.heap.size) (w1'.heap.size) 0 (.int .u8 (d.depth.toNat : Int))).trans (Only.set _ (w1'.heap.size) (w1'.heap.size) 1 (.slice A9 n c9))) (fun _ a ha => ⟨NE5.out a ha, NE5.out a ha⟩), NE5.out, HB1.out, HB.out.trans (((Only.set u9 (w1'.heap.size) (w1'.heap.size) 0 (.int .u8 (d.depth.toNat : Int))).trans (Only.set _ (w1'.heap.size) (w1'.heap.size) 1 (.slice A9 n c9))).below HB1.out HB1.out)⟩
    case rest =>
      generalize wc = W5 at *
      obtain ⟨P, A9, c9, rfl, mP, hOW, hne, hP, hb⟩ := hcut
      obtain ⟨g, rfl, hg, mg⟩ := hOW.2.2.2 (Nat.pos_of_ne_zero HN0.out)
      have hgP : g ≠ P := hne _ rfl
      have S5 := Lib.hid (S3.out.keep hb)
      have B5 := Lib.hid (B3.out.trans (hb.mono B3.out.size))
      have hs9 : w3.heap.size ≤ W5.heap.size := hb.size
      have hdb : w.heap.size < w3.heap.size := S3.out.mem.at_.lt
      have hbd : bd < w3.heap.size := by
        obtain ⟨b', o', e, hlt, _⟩ := S3.out.rd.getD HI.out
        injection e with e
        injection e with e _
        rw [← e] at hlt
        exact hlt
      have hlen : (wcells d.slots).length = n := by rw [wcells_length, HL.out]
      obtain ⟨v0, cv, fv⟩ : ∃ v0, W5.cell? ⟨g, i, none⟩ = some v0 ∧ W5.frozen? ⟨g, i, none⟩ = false := ⟨_, mg.get i _ (List.getElem?_eq_getElem (by rw [hlen]; exact HI.out))⟩
      have mg6 := mg.setAt i (by rw [hlen]; exact HI.out) (.int .u16 ((at_ d.slots k).toNat : Int))
      rw [wcells_set] at mg6
      have ho := Only.set W5 g g i (.int .u16 v)
      have mP6 := mP.only ho hgP.symm hgP.symm
      have MG6 := Lib.hid mg6
      have MP6 := Lib.hid mP6
      have B6 := Lib.hid (B5.out.trans (ho.below (Nat.le_trans (Nat.le_of_lt hdb) hg) (Nat.le_trans (Nat.le_of_lt hdb) hg))).drew
      obtain ⟨a0, a1⟩ := S5.out.cells
      have c2 := S5.out.rd.at' HK.out
      rw [← HV.out] at c2
      obtain ⟨p1, _⟩ := mP.get 1 _ rfl
      have hn9 := hOW.2.2.1
      have HS9 := Lib.hid (show n ≤ c9 from hOW.2.1)
      clear hb hg mg hOW hne mg6 mP6 mP hP hs9 ho hlen
      go_upto_region 19 with fail
      go_region
      have HRD : Hid (ReadsW (W5.setCell ⟨g, i, none⟩ (.int .u16 v)) (some ⟨g, 0, none⟩) n (badD d i k).slots) := Lib.hid (by
        have h9 := MG6.out.readsW
        rw [List.length_set, HL.out, ← HV.out] at h9
        exact h9)
      have HDV : Hid (Value.agg #[.int .u8 (d.depth.toNat : Int), .slice (some ⟨g, 0, none⟩) n c9] = dval (badD d i k) (some ⟨g, 0, none⟩) n c9) := Lib.hid rfl
      obtain ⟨p0, _⟩ := MP6.out.get 0 _ rfl
      obtain ⟨p1', _⟩ := MP6.out.get 1 _ rfl
      clear p1 a0 a1 c2 cv fv
      have hcs : ¬ l1 = 1 ∨ (l1 = 1 ∧ ¬ l2 = 1) ∨ (l1 = 1 ∧ l2 = 1 ∧ ¬ i2 = k2) ∨ (l1 = 1 ∧ l2 = 1 ∧ i2 = k2) := by
        by_cases h1 : l1 = 1
        · by_cases h2 : l2 = 1
          · by_cases h3 : i2 = k2
            · exact .inr (.inr (.inr ⟨h1, h2, h3⟩))
            · exact .inr (.inr (.inl ⟨h1, h2, h3⟩))
          · exact .inr (.inl ⟨h1, h2⟩)
        · exact .inl h1
      rcases hcs with h1 | ⟨rfl, h1⟩ | ⟨rfl, rfl, h1⟩ | ⟨rfl, rfl, rfl⟩
      · have HB2 := HJ2
        have f1 : ((l1 : Int) == 1) = false := beq_eq_false_iff_ne.2 (fun e => h1 (by exact_mod_cast e))
        have f2 : ¬ (l1 : Int) = 1 := fun e => h1 (by exact_mod_cast e)
        have f3 : decide (l1 = 1) = false := decide_eq_false h1
        have HB2 : Hid (rightB (badD d i k) = false) := Lib.hid (by rw [HJ2.out]; exact decide_eq_false (fun h => h1 h.1))
        go_wp2_with fail
        rw [HDV.out]
        refine (right_any (badD d i k) _ n c9 _ (by first | exact HRD.out | exact HRD.out.keep (Below.refl _ _).drew) hn).mono ?_
        rintro e w8 ⟨rfl, hb⟩
        rw [HB2.out]
        have B8 := Lib.hid (B6.out.trans (hb.mono B6.out.size))
        clear hb
        go_wp2_with fail
        refine (awake_any _).mono ?_
        rintro e w9 ⟨rfl, hb⟩
        have B9 := Lib.hid (B8.out.trans (hb.mono B8.out.size))
        clear hb
        go_wp2_with fail
        go_ret
        exact ⟨rfl, B9.out⟩
      · have HB2 := HJ2
        have f1 : ((l2 : Int) == 1) = false := beq_eq_false_iff_ne.2 (fun e => h1 (by exact_mod_cast e))
        have f2 : ¬ (l2 : Int) = 1 := fun e => h1 (by exact_mod_cast e)
        have f3 : decide (l2 = 1) = false := decide_eq_false h1
        have HB2 : Hid (rightB (badD d i k) = false) := Lib.hid (by rw [HJ2.out]; exact decide_eq_false (fun h => h1 h.2.1))
        go_wp2_with fail
        rw [HDV.out]
        refine (right_any (badD d i k) _ n c9 _ (by first | exact HRD.out | exact HRD.out.keep (Below.refl _ _).drew) hn).mono ?_
        rintro e w8 ⟨rfl, hb⟩
        rw [HB2.out]
        have B8 := Lib.hid (B6.out.trans (hb.mono B6.out.size))
        clear hb
        go_wp2_with fail
        refine (awake_any _).mono ?_
        rintro e w9 ⟨rfl, hb⟩
        have B9 := Lib.hid (B8.out.trans (hb.mono B8.out.size))
        clear hb
        go_wp2_with fail
        go_ret
        exact ⟨rfl, B9.out⟩
      · have HB2 := HJ2
        have f1 : ((i2 : Int) == (k2 : Int)) = false := beq_eq_false_iff_ne.2 (fun e => h1 (by exact_mod_cast e))
        have f2 : ¬ (i2 : Int) = (k2 : Int) := fun e => h1 (by exact_mod_cast e)
        have f3 : decide (i2 = k2) = false := decide_eq_false h1
        have HB2 : Hid (rightB (badD d i k) = false) := Lib.hid (by rw [HJ2.out]; exact decide_eq_false (fun h => h1 h.2.2))
        go_wp2_with fail
        rw [HDV.out]
        refine (right_any (badD d i k) _ n c9 _ (by first | exact HRD.out | exact HRD.out.keep (Below.refl _ _).drew) hn).mono ?_
        rintro e w8 ⟨rfl, hb⟩
        rw [HB2.out]
        have B8 := Lib.hid (B6.out.trans (hb.mono B6.out.size))
        clear hb
        go_wp2_with fail
        refine (awake_any _).mono ?_
        rintro e w9 ⟨rfl, hb⟩
        have B9 := Lib.hid (B8.out.trans (hb.mono B8.out.size))
        clear hb
        go_wp2_with fail
        go_ret
        exact ⟨rfl, B9.out⟩
      · have HB2 := HJ2
        have f1 : ((i2 : Int) == (i2 : Int)) = true := beq_self_eq_true _
        have HB2 : Hid (rightB (badD d i k) = true) := Lib.hid (by rw [HJ2.out]; exact decide_eq_true ⟨rfl, rfl, rfl⟩)
        go_wp2_with fail
        rw [HDV.out]
        refine (right_any (badD d i k) _ n c9 _ (by first | exact HRD.out | exact HRD.out.keep (Below.refl _ _).drew) hn).mono ?_
        rintro e w8 ⟨rfl, hb⟩
        rw [HB2.out]
        have B8 := Lib.hid (B6.out.trans (hb.mono B6.out.size))
        clear hb
        go_wp2_with fail
        refine (awake_any _).mono ?_
        rintro e w9 ⟨rfl, hb⟩
        have B9 := Lib.hid (B8.out.trans (hb.mono B8.out.size))
        clear hb
        go_wp2_with fail
        go_ret
        exact ⟨rfl, B9.out⟩

end Go.Proofs.Ytlkmcjjdjbdihaa
