/-
  The document's Double.
-/
import Derived.Test.YtlkmcjjdjbdihaaDrRf
namespace Go.Proofs.Ytlkmcjjdjbdihaa
open Go.RowKit Go.Maps
set_option linter.unusedVariables false
set_option linter.unusedSimpArgs false
attribute [local go_sem ↓] Go.wp_at_zero Go.wp_at_succ


theorem dbl_told (d : Dir) (j : Nat) : toldL (fun i => at_ d.slots (i / 2)) (2 * (j + 1)) = toldL (fun i => at_ d.slots (i / 2)) (2 * j) ++ [at_ d.slots j, at_ d.slots j] := by
  rw [show 2 * (j + 1) = 2 * j + 1 + 1 by omega, toldL_succ, toldL_succ, List.append_assoc]
  rw [show 2 * j / 2 = j by omega, show (2 * j + 1) / 2 = j by omega]
  rfl

set_option maxHeartbeats 8000000 in
set_option maxRecDepth 100000 in
theorem rdouble_any (d : Dir) (A : Option Addr) (n c : Nat) (w : World) (h : ReadsW w A n d.slots) (hn : n ≤ maxLen) :
    Calls Try.prog 23 #[dval d A n c] w fun e w' => RetV w w' (doubleD d) (doubleE d) e := by
  have HL := Lib.hid h.1
  have HR := Lib.hid h; clear h
  obtain ⟨W0, hW0⟩ : ∃ W0 : World, W0 = w.alloc (.cells #[.int .u8 (d.depth.toNat : Int), .slice A n c] 24) := ⟨_, rfl⟩
  obtain ⟨W1, hW1⟩ : ∃ W1 : World, W1 = W0.alloc (.cells #[.int .u8 0, .slice none 0 0] 24) := ⟨_, rfl⟩
  have b0 : Below w.heap.size w W0 := by rw [hW0]; exact (Below.refl _ w).alloc (Nat.le_refl _) _
  have b1 : Below W0.heap.size W0 W1 := by rw [hW1]; exact (Below.refl _ _).alloc (Nat.le_refl _) _
  have z0 : W0.heap.size = w.heap.size + 1 := by rw [hW0]; simp
  have s0 : BoxD W0 w.heap.size d A n c := by rw [hW0]; exact BoxD.new w d A n c HR.out
  have q1 : MemC W1 (w.heap.size + 1) 0 [.int .u8 0, .slice none 0 0] := by rw [hW1, ← z0]; exact MemC.new W0 [.int .u8 0, .slice none 0 0] 24
  have B1 := Lib.hid (b0.trans (b1.mono b0.size))
  have S1 := Lib.hid (s0.keep b1)
  have Q1 := Lib.hid q1
  have HW : Hid (W1 = (w.alloc (.cells #[.int .u8 (d.depth.toNat : Int), .slice A n c] 24)).alloc (.cells #[.int .u8 0, .slice none 0 0] 24)) := Lib.hid (by rw [hW1, hW0])
  clear b0 b1 z0 s0 q1 hW0 hW1
  obtain ⟨a0, a1⟩ := S1.out.cells
  unfold dval
  go_enter Try.func23, Try.ntmps23
  go_upto_region 1 with fail
  rw [← HW.out]
  clear HW
  go_wp2_with fail
  rw [dval_eq]
  refine (rright_any d A n c _ S1.out.rd hn).mono ?_
  rintro e w3 ⟨rfl, hb⟩
  have B3 := Lib.hid (B1.out.trans (hb.mono B1.out.size))
  have S3 := Lib.hid (S1.out.keep hb)
  have Q3 := Lib.hid (Q1.out.keep hb)
  clear hb a0 a1 B1 S1 Q1
  obtain ⟨a0, a1⟩ := S3.out.cells
  obtain ⟨q0, _⟩ := Q3.out.get 0 _ rfl
  obtain ⟨q1, _⟩ := Q3.out.get 1 _ rfl
  have hfin : ∀ W, Below w.heap.size w W → ∀ u v, Below w.heap.size w ((W.setCell ⟨w.heap.size + 1, 0, none⟩ u).setCell ⟨w.heap.size + 1, 1, none⟩ v) := fun W hW u v => (hW.setCell (p := ⟨w.heap.size + 1, 0, none⟩) (by simp) _).setCell (p := ⟨w.heap.size + 1, 1, none⟩) (by simp) _
  have HFN := Lib.hid hfin; clear hfin
  have hZ : Hid (w.heap.size + 1 < w3.heap.size) := Lib.hid Q3.out.at_.lt
  unfold dval
  cases hr : rightB d
  · have HF : Hid (doubleE d = 170) := Lib.hid (by unfold doubleE; rw [hr]; rfl)
    clear hr
    go_wp2_with fail
    refine bodyPost_ret (v := .tuple #[dzero, .int .i64 170]) (by simp [results, Try.results23, go_sem, q0, q1, dzero]) rfl (by rw [HF.out]; exact retv_zero (by decide) (HFN.out _ B3.out _ _))
  · have hR := rightB_iff.1 hr
    have hd8 := hR.le
    by_cases h8 : d.depth.toNat = 8
    · have HF : Hid (doubleE d = 171) := Lib.hid (by unfold doubleE; rw [hr, if_pos rfl, if_pos h8])
      rw [h8] at a0
      clear hr hR
      go_wp2_with fail
      refine bodyPost_ret (v := .tuple #[dzero, .int .i64 171]) (by simp [results, Try.results23, go_sem, q0, q1, dzero]) rfl (by rw [HF.out]; exact retv_zero (by decide) (HFN.out _ B3.out _ _))
    · have HF : Hid (doubleE d = 0) := Lib.hid (by unfold doubleE; rw [hr, if_pos rfl, if_neg h8])
      have h8i : ((d.depth.toNat : Int) == 8) = false := beq_eq_false_iff_ne.2 (by omega)
      have h8n : (d.depth.toNat == 8) = false := beq_eq_false_iff_ne.2 h8
      obtain ⟨z, hz⟩ : ∃ z : Int, z = ((d.depth + 1).toNat : Int) := ⟨_, rfl⟩
      have hz2 : (d.depth.toNat : Int) + 1 = z := by rw [hz, u8_up (by omega)]; rfl
      have hu : IntKind.u8.wrap ((d.depth.toNat : Int) + 1) = z := by rw [IntWalk.u8_in _ (by omega)]; exact hz2
      have hu2 : ((d.depth.toNat : Int) + 1) % 256 = z := by omega
      have HZZ : Hid (((doubleD d).depth.toNat : Int) = z) := Lib.hid hz.symm
      have hl : n = 2 ^ d.depth.toNat := by rw [← HL.out, hR.len]
      have hn256 : n ≤ 256 := by rw [hl]; exact pow8 hd8
      have HLEN : Hid (toldL (fun i => at_ d.slots (i / 2)) (2 * n) = (doubleD d).slots) := Lib.hid (by unfold doubleD; rw [hl, Nat.pow_succ, Nat.mul_comm])
      obtain ⟨X, hX⟩ : ∃ X : World, X = w3.alloc (.cells #[.int .u8 z, .slice none 0 0] 24) := ⟨_, rfl⟩
      have O0 : Hid (OutS w3 X z (.slice none 0 0) []) := Lib.hid (by rw [hX]; exact OutS.new w3 _)
      have HX := Lib.hid hX
      clear hX hr hR hz hz2 hl h8
      go_upto_region 6 with fail
      rw [← HX.out]
      clear HX a0 a1 q0 q1 h8i h8n hu hu2
      go_wp2_with fail
      go_loopw [5] (fun i wr => ∃ (j : Nat) (v : Value), j ≤ n ∧ i = .int .i64 (j : Int) ∧ OutS w3 wr z v (toldL (fun i => at_ d.slots (i / 2)) (2 * j))) (fun i _ => n - (intOf i).toNat)
      case atStart => exact ⟨0, _, Nat.zero_le _, rfl, O0.out⟩
      case round =>
        obtain ⟨j, v, hj, rfl, hout⟩ := hrel
        have HO := Lib.hid hout; clear hout
        have Sj := Lib.hid (S3.out.keep HO.out.bel)
        obtain ⟨a0, a1⟩ := Sj.out.cells
        obtain ⟨p0, f0⟩ := HO.out.mem.get 0 _ rfl
        obtain ⟨p1, f1⟩ := HO.out.mem.get 1 _ rfl
        have ls := HO.out.mem.at_.lt
        have ls2 := Sj.out.mem.at_.lt
        by_cases hjn : j < n
        · have HJ := Lib.hid hjn
          obtain ⟨bd, od, rfl, hbd, xj⟩ := Sj.out.rd.getD hjn
          have j0' : (0 : Int) ≤ (j : Int) := Int.natCast_nonneg _
          have j1' : (j : Int) < (n : Int) := Int.ofNat_lt.2 hjn
          have htd := dbl_told d j
          obtain ⟨x, hx⟩ : ∃ x, x = at_ d.slots j := ⟨_, rfl⟩
          rw [← hx] at xj htd
          obtain ⟨L, hL⟩ : ∃ L, L = toldL (fun i => at_ d.slots (i / 2)) (2 * j) := ⟨_, rfl⟩
          rw [← hL] at HO htd
          have hLl : L.length ≤ 512 := by rw [hL, toldL_length]; omega
          have HTD := Lib.hid htd
          clear htd hx hL
          go_upto_region 9 with fail
          go_region_law
            ((refine step_appendC (by rfl) _ _ 22 (by rfl) (w3.heap.size + 1) 26 (.int .u16 0) 1 2 Try.underlying22 u16info rfl (by omega) v L.length (wcells L) (by rfl) ?_ (some ⟨wr.heap.size, 0, none⟩) 2 2 (wcells [x, x]) (by rfl) (by rfl) ?_ (wcells_one _) (by simp only [maxLen]; omega) (by omega) ?_ ?_; (first | exact (HO.out.row.alloc _) | exact ((own_drew HO.out.row).alloc _) | exact own_drew (HO.out.row.alloc _)); (first | exact (MemC.new wr (wcells [x, x]) 26).cells | exact (MemC.new wr (wcells [x, x]) 26).drew.cells | exact (MemC.new wr.drew (wcells [x, x]) 26).cells); (simp; omega); intro v' w5 hown1 hgrow hnil hat; obtain ⟨A5, c5, rfl, _, _, _⟩ := own_readsW (l := L ++ [x, x]) (by rw [wcells_append]; exact hown1); have hgr : (wr.alloc (.cells (wcells [x, x]).toArray 26)).grownBy w5 v.ownBlock := (by first | exact hgrow | exact grown_of_drew hgrow); obtain ⟨hm5, ho5⟩ := HO.out.app (k := [x, x]) (m := 2) rfl hown1 hgr; have HO5 := Lib.hid ho5; clear p0 f0 p1 f1; obtain ⟨p0, f0⟩ := hm5.get 0 _ rfl; obtain ⟨p1, f1⟩ := hm5.get 1 _ rfl; clear hown1 hgrow hgr hnil hat hm5 ho5))
          all_goals
            have HO6 := Lib.hid (show OutS w3 _ z _ (toldL (fun i => at_ d.slots (i / 2)) (2 * (j + 1))) by rw [HTD.out]; exact HO5.out)
            go_wp2_with fail
            go_roundw
            case rel => exact ⟨j + 1, _, HJ.out, by go_num, HO6.out⟩
            case measure => have := HJ.out; simp [intOf]; omega
        · obtain rfl : n = j := by omega
          have j1' : ¬ (n : Int) < (n : Int) := by omega
          rw [HLEN.out] at HO
          obtain ⟨q0, qf0⟩ := (Q3.out.keep HO.out.bel).get 0 _ rfl
          obtain ⟨q1, qf1⟩ := (Q3.out.keep HO.out.bel).get 1 _ rfl
          obtain ⟨A9, c9, rfl, r9, l9⟩ := HO.out.reads
          obtain ⟨M, hM⟩ : ∃ M, M = (doubleD d).slots.length := ⟨_, rfl⟩
          have HRS : Hid (RetV w ((wr.setCell ⟨w.heap.size + 1, 0, none⟩ (.int .u8 z)).setCell ⟨w.heap.size + 1, 1, none⟩ (.slice A9 M c9)) (doubleD d) (doubleE d) (.returned (.tuple #[.agg #[.int .u8 z, .slice A9 M c9], .int .i64 0]))) := Lib.hid (by
            rw [HF.out, hM]
            exact HO.out.ret (Below.refl _ _) B3.out HZZ.out (Nat.le_succ _) hZ.out)
          rw [← hM] at p1
          clear hM r9 l9
          go_wp2_with fail
          exact bodyPost_ret (v := .tuple #[.agg #[.int .u8 z, .slice A9 M c9], .int .i64 0]) (by simp [results, Try.results23, go_sem, q0, q1]) rfl HRS.out

end Go.Proofs.Ytlkmcjjdjbdihaa
