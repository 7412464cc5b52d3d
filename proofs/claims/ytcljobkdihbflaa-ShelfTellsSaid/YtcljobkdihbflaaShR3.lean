/-
  catchmentref04.Encode.
-/
import Derived.Test.YtcljobkdihbflaaShR2
import Derived.Test.YtcljobkdihbflaaOctT
import Derived.Test.YtcljobkdihbflaaOctX2
namespace Go.Proofs.Ytcljobkdihbflaa
open Go.RowKit
set_option linter.unusedVariables false
attribute [local go_sem ↓] Go.wp_at_zero Go.wp_at_succ

theorem rencode_wrong (s : Shelf) (A : Option Addr) (n c : Nat) (w : World) (h : ReadsE w A n s.ents) (hn : n ≤ maxLen) (hr : rightB s = false) :
    Calls Try.prog 14 #[sval s A n c] w fun e w' => e = .returned (.tuple #[.slice none 0 0, .int .i64 40]) ∧ Below w.heap.size w w' := by
  have HR := Lib.hid h; clear h
  have HF := Lib.hid hr; clear hr
  unfold sval
  go_enter Try.func14, Try.ntmps14
  go_wp2_with fail
  have B0 := Lib.hid ((Below.refl w.heap.size w).alloc (Nat.le_refl _) (.cells #[.int .u8 (s.depth.toNat : Int), .int .u32 (s.next.toNat : Int), .slice A n c] 25))
  refine (rright_any s A n c _ (HR.out.keep B0.out) hn).mono ?_
  rintro e w' ⟨rfl, hb⟩
  rw [HF.out]
  have B1 := Lib.hid (B0.out.trans (hb.mono B0.out.size)); clear hb
  go_wp2_with fail
  go_ret2
  exact ⟨rfl, B1.out⟩

set_option maxHeartbeats 4000000 in
set_option maxRecDepth 100000 in
theorem rencode_right (s : Shelf) (A : Option Addr) (n c : Nat) (w : World) (h : ReadsE w A n s.ents) (hr : rightB s = true) :
    Calls Try.prog 14 #[sval s A n c] w fun e w' => ∃ v, e = .returned (.tuple #[v, .int .i64 0]) ∧ Fresh8 w w' v (pageOf 3 (sbody s)) := by
  have h9 := (rightB_iff.1 hr).2.2.1
  have HL := Lib.hid h.1
  have hn : n ≤ 9 := by have := HL.out; omega
  clear h9
  have HR := Lib.hid h; clear h
  have HF := Lib.hid hr; clear hr
  obtain ⟨W0, hW0⟩ : ∃ W0 : World, W0 = w.alloc (.cells #[.int .u8 (s.depth.toNat : Int), .int .u32 (s.next.toNat : Int), .slice A n c] 25) := ⟨_, rfl⟩
  have B0 : Hid (Below w.heap.size w W0) := Lib.hid (by rw [hW0]; exact (Below.refl _ w).alloc (Nat.le_refl _) _)
  have M0 : Hid (MemC W0 w.heap.size 0 [.int .u8 (s.depth.toNat : Int), .int .u32 (s.next.toNat : Int), .slice A n c]) := Lib.hid (by rw [hW0]; exact MemC.new w [.int .u8 (s.depth.toNat : Int), .int .u32 (s.next.toNat : Int), .slice A n c] 25)
  have HR0 := Lib.hid (HR.out.keep B0.out)
  have HW := Lib.hid hW0; clear hW0
  unfold sval
  go_enter Try.func14, Try.ntmps14
  go_wp2_with fail
  rw [← HW.out]
  clear HW
  refine (rright_any s A n c _ HR0.out (by simp only [maxLen]; omega)).mono ?_
  rintro e w1 ⟨rfl, hb⟩
  rw [HF.out]
  have B1 := Lib.hid (B0.out.trans (hb.mono B0.out.size))
  have R1 := Lib.hid (HR0.out.keep hb)
  have M1 := Lib.hid (M0.out.keep hb)
  clear hb HR0 M0 B0
  obtain ⟨k0, _⟩ := M1.out.get 0 _ rfl
  obtain ⟨k1, _⟩ := M1.out.get 1 _ rfl
  obtain ⟨k2, _⟩ := M1.out.get 2 _ rfl
  have hx32 : (s.next.toNat : Int) < 4294967296 := by have := UInt32.toNat_lt s.next; omega
  go_wp2_with fail
  refine (rbytes_any s.next.toNat 4 _ (by omega) (by have := UInt32.toNat_lt s.next; omega)).mono ?_
  rintro e w2 ⟨v, rfl, hF⟩
  obtain ⟨g2, d2, rfl, hg2, hd2, hdm2, hM2, hb⟩ := hF.open_ (be_length s.next.toNat 4)
  have B2 := Lib.hid (B1.out.trans (hb.mono B1.out.size))
  have R2 := Lib.hid (R1.out.keep hb)
  have M2 := Lib.hid (M1.out.keep hb)
  have P2 := Lib.hid hM2
  clear hM2 hb hF k0 k1 k2 R1 M1 B1
  obtain ⟨k0, _⟩ := M2.out.get 0 _ rfl
  obtain ⟨k1, _⟩ := M2.out.get 1 _ rfl
  obtain ⟨k2, _⟩ := M2.out.get 2 _ rfl
  have hu : ((n : Int) % 256) = (n : Int) := by omega
  have hown0 : (w2.alloc (.cells #[.int .u8 (s.depth.toNat : Int), .int .u8 (n : Int)] 5)).ownsRow w2.heap.size 5 1 (.slice (some ⟨w2.heap.size, 0, none⟩) 2 2) 2 (bcells [s.depth, UInt8.ofNat n]) := by
    have := World.ownsRow_lit (e := 5) (size := 1) w2 #[.int .u8 (s.depth.toNat : Int), .int .u8 (n : Int)] 2 (Nat.le_refl _) (by simp only [maxLen]; omega) rfl
    have e : bcells [s.depth, UInt8.ofNat n] = [.int .u8 (s.depth.toNat : Int), .int .u8 (n : Int)] := by simp [bcells]; omega
    rw [e]
    exact this
  have HO0 := Lib.hid hown0
  have hb0 := (Below.refl w2.heap.size w2).alloc (Nat.le_refl _) (.cells #[.int .u8 (s.depth.toNat : Int), .int .u8 (n : Int)] 5)
  have BX := Lib.hid hb0
  have P3 := Lib.hid (P2.out.keep hb0).reads
  clear hown0 hb0
  go_wp2_with (at_builtin; refine wpList_append8 rfl _ _ 29 rfl w2.heap.size 5 Try.underlying29 u8info (.slice (some ⟨w2.heap.size, 0, none⟩) 2 2) 2 [s.depth, UInt8.ofNat n] rfl HO0.out (some ⟨g2, 0, none⟩) 4 d2 (be s.next.toNat 4) rfl P3.out (by omega) BX.out.size ?_)
  intro v' w3 hown hgrow hnil hat
  have hb3 : Below w2.heap.size w2 w3 := BX.out.grown hgrow BX.out.size (own_base HO0.out)
  have hne : v' ≠ .slice none 0 0 := by simpa using hnil
  have hown2 : w3.ownsRow w2.heap.size 5 1 v' 6 (bcells (sw s 0)) := by
    rw [sw_zero, shead, HL.out]
    exact hown
  obtain ⟨g3, d3, rfl, _⟩ := own_shape hown2 hne
  have HO3 := Lib.hid hown2
  have B3 := Lib.hid hb3
  clear hown hown2 hgrow hnil hat hne hb3 HO0 BX P3 P2 k0 k1 k2
  go_wp2_with fail
  have hdec : decide (s.next.toNat < 4294967296) = true := decide_eq_true (UInt32.toNat_lt s.next)
  simp only [hdec]
  clear hx32 hu hdec
  go_loopw [6, 7] (fun v i wr => ∃ k g d : Nat, k ≤ n ∧ i = .int .i64 k ∧ v = .slice (some ⟨g, 0, none⟩) (6 + 12 * k) d ∧ wr.ownsRow w2.heap.size 5 1 (.slice (some ⟨g, 0, none⟩) (6 + 12 * k) d) (6 + 12 * k) (bcells (sw s k)) ∧ Below w2.heap.size w2 wr) (fun _ i _ => n - (intOf i).toNat)
  case atStart => exact ⟨0, _, _, Nat.zero_le _, rfl, rfl, HO3.out, B3.out⟩
  case round =>
    clear HO3 B3
    obtain ⟨k, g, d, hk, rfl, rfl, hown, hb⟩ := hrel
    have HO := Lib.hid hown; clear hown
    have HB := Lib.hid hb; clear hb
    obtain ⟨k2, _⟩ := (M2.out.keep HB.out).get 2 _ rfl
    by_cases hlt : k < n
    · obtain ⟨b, o, rfl, hbl, c0, c1⟩ := (R2.out.keep HB.out).getD (k := k) hlt
      have hst := sw_step s k (by have := HL.out; omega)
      have hx1 := UInt64.toNat_lt (s.ents.getD k e0).1
      have hx2 := UInt32.toNat_lt (s.ents.getD k e0).2
      generalize (s.ents.getD k e0).1.toNat = x1 at *
      generalize (s.ents.getD k e0).2.toNat = x2 at *
      have HST := Lib.hid hst; clear hst
      have HX1 := Lib.hid hx1; clear hx1
      have HX2 := Lib.hid hx2; clear hx2
      have i0 : (0 : Int) ≤ (k : Int) := by omega
      go_wp2_with fail
      refine (rbytes_any x1 8 _ (by omega) (by have := HX1.out; omega)).mono ?_
      rintro e w4 ⟨v, rfl, hF⟩
      obtain ⟨g4, d4, rfl, _, _, _, hM4, hb4⟩ := hF.open_ (be_length x1 8)
      have P4 := Lib.hid hM4
      have B4 := Lib.hid (HB.out.trans (hb4.mono HB.out.size))
      have HO4 := Lib.hid (own_keep HO.out hb4)
      have HS4 : Hid (wr.heap.size ≤ w4.heap.size) := Lib.hid hb4.size
      have c1w := (hb4.cell (p := ⟨b, o + k * 2 + 1, none⟩) hbl).trans c1
      clear hF hM4 hb4 c0 c1 k2
      obtain ⟨k2, _⟩ := (M2.out.keep B4.out).get 2 _ rfl
      have x2i : (x2 : Int) < 4294967296 := by have := HX2.out; omega
      go_wp2_with fail
      refine (rbytes_any x2 4 _ (by omega) (by have := HX2.out; omega)).mono ?_
      rintro e w5 ⟨v, rfl, hF⟩
      obtain ⟨g5, d5, rfl, hg5, _, _, hM5, hb5⟩ := hF.open_ (be_length x2 4)
      have P5 := Lib.hid hM5
      have B5 := Lib.hid (B4.out.trans (hb5.mono B4.out.size))
      have HO5 := Lib.hid (own_keep HO4.out hb5)
      have Q5 := Lib.hid (P4.out.keep hb5)
      clear hF hM5 hb5 c1w k2 x2i HO4 P4
      go_wp2_with (at_builtin; refine wpList_append8 rfl _ _ 29 rfl w2.heap.size 5 Try.underlying29 u8info (.slice (some ⟨g, 0, none⟩) (6 + 12 * k) d) (6 + 12 * k) (sw s k) rfl HO5.out (some ⟨g4, 0, none⟩) 8 d4 (be x1 8) rfl Q5.out.reads (by omega) B5.out.size ?_)
      intro v6 w6 hown6 hgrow6 hnil6 hat6
      have hb6 : Below w2.heap.size w2 w6 := B5.out.grown hgrow6 B5.out.size (own_base HO5.out)
      have P6 : Hid (Reads8 w6 (some ⟨g5, 0, none⟩) 4 (be x2 4)) := Lib.hid (by
        have hgg : g < w4.heap.size := by
          obtain ⟨_, _, e1, _, _, _, h1⟩ := own_shape HO.out (by simp)
          injection e1 with e1 _ _
          injection e1 with e1
          injection e1 with e1
          subst e1
          exact Nat.lt_of_lt_of_le h1 HS4.out
        have hbb : Below 0 w5 w6 := (Below.refl 0 w5).grown hgrow6 (Nat.zero_le _) (fun _ _ => Nat.zero_le _)
        refine ⟨be_length _ _, fun _ => ⟨g5, 0, rfl, Nat.lt_of_lt_of_le P5.out.lt hbb.size, fun j hj => ?_⟩⟩
        exact (hgrow6.cell_far ⟨g5, 0 + j, none⟩ P5.out.lt (by simp [Value.ownBlock]; omega)).trans (P5.out.cell j hj))
      have hne6 : v6 ≠ .slice none 0 0 := by simpa using hnil6
      obtain ⟨g6, d6, rfl, _⟩ := own_shape hown6 hne6
      have HO6 := Lib.hid hown6
      have B6 := Lib.hid hb6
      clear hown6 hgrow6 hnil6 hat6 hb6 hne6
      go_wp2_with (at_builtin; refine wpList_append8 rfl _ _ 29 rfl w2.heap.size 5 Try.underlying29 u8info (.slice (some ⟨g6, 0, none⟩) (6 + 12 * k + 8) d6) (6 + 12 * k + 8) (sw s k ++ be x1 8) rfl HO6.out (some ⟨g5, 0, none⟩) 4 d5 (be x2 4) rfl P6.out (by omega) B6.out.size ?_)
      intro v7 w7 hown7 hgrow7 hnil7 hat7
      have hb7 : Below w2.heap.size w2 w7 := B6.out.grown hgrow7 B6.out.size (own_base HO6.out)
      have hne7 : v7 ≠ .slice none 0 0 := by simpa using hnil7
      have hown8 : w7.ownsRow w2.heap.size 5 1 v7 (6 + 12 * (k + 1)) (bcells (sw s (k + 1))) := by
        rw [← HST.out, List.append_assoc, show 6 + 12 * (k + 1) = 6 + 12 * k + 8 + 4 by omega]
        exact hown7
      obtain ⟨g7, d7, rfl, _⟩ := own_shape hown8 hne7
      have HO8 := Lib.hid hown8
      have B8 := Lib.hid hb7
      clear hown7 hown8 hgrow7 hnil7 hat7 hb7 hne7
      go_wp2_with fail
      go_roundw
      case rel => exact ⟨k + 1, g7, d7, by omega, by go_num, rfl, HO8.out, B8.out⟩
      case measure => simp [intOf]; omega
    · obtain rfl : k = n := by omega
      have hib : sw s k = sbody s := by have := sw_all s; rwa [HL.out] at this
      have hlen : (sbody s).length = 6 + 12 * k := by rw [sbody_length, HL.out]
      have hm : Mem8 wr g 0 (6 + 12 * k) (sbody s) := by
        have := Mem8.of_own (w := wr) (l := sbody s) (by rw [hlen, ← hib]; exact HO.out)
        rwa [hlen] at this
      have HM := Lib.hid hm; clear hm hib hlen
      go_wp2_with fail
      refine (rseal_any _ (6 + 12 * k) _ 3 (sbody s) _ HM.out.reads (by omega)).mono ?_
      rintro e w5 ⟨v, rfl, hF⟩
      have HFr := Lib.hid (hF.from (B2.out.trans (HB.out.mono B2.out.size)))
      clear hF
      go_wp2_with fail
      go_ret2
      exact ⟨v, rfl, HFr.out⟩

end Go.Proofs.Ytcljobkdihbflaa
