/-
  super.Pick.
-/
import Derived.Test.YtfnoeligaapnbaaSuJ
import Derived.StillTailTactics
namespace Go.Proofs.Ytfnoeligaapnbaa
open Go.RowKit Go.Shelf
set_option linter.unusedVariables false
set_option linter.unusedSimpArgs false
attribute [local go_sem ↓] Go.wp_at_zero Go.wp_at_succ

def bestK (p q : List UInt8) (k : Nat) : Sup := if k = 0 then noS else if k = 1 then best1 p else best2 p q

theorem upd_no {b : Sup} {p : List UInt8} {k : Nat} (h : isSup p = false) : updS b p k = b := by unfold updS; rw [h]; rfl
theorem upd_slot {b : Sup} {p : List UInt8} {k : Nat} (h : ¬ slotS (supOf (bodyOf p)).gen.toNat = k) : updS b p k = b := by unfold updS; rw [decide_eq_false h]; simp
theorem upd_less {b : Sup} {p : List UInt8} {k : Nat} (h : ¬ b.gen.toNat < (supOf (bodyOf p)).gen.toNat) : updS b p k = b := by unfold updS; rw [decide_eq_false h]; simp
theorem upd_yes {b : Sup} {p : List UInt8} {k : Nat} (h : isSup p = true) (h1 : slotS (supOf (bodyOf p)).gen.toNat = k) (h2 : b.gen.toNat < (supOf (bodyOf p)).gen.toNat) : updS b p k = supOf (bodyOf p) := by unfold updS; rw [h, decide_eq_true h1, decide_eq_true h2]; rfl

section
variable {ops : Array Oper} {rest : List Oper} {op : Oper} {a : Act} {w : World} {Q : Act → Prop}
theorem ws_load (x : Operand) (ho : op.op = .load 27 x) (hw : Region.wanted op (yielded ops a.tmps) = true) (B : Nat) (s : Sup) (hx : a.eval x = .pointer (some ⟨B, 0, none⟩)) (hm : MemC w B 0 (scells s))
    (h : wpStill Try.prog ops w Q rest (a.put op.dst (sval s))) : wpStill Try.prog ops w Q (op :: rest) a := by
  refine wpStill_step fun K hK => ?_
  rw [if_pos hw]
  unfold Oper.still execOp
  simp only [ho, hx, Sem.run_bind, load_sup hm, Result.andThen_ok, Sem.run_pure, Oper.stillUpon_value]
  exact hK _ h
end

set_option maxRecDepth 100000 in
set_option maxHeartbeats 8000000 in
theorem pick_any (A1 A2 : Option Addr) (n1 c1 n2 c2 : Nat) (p1 p2 : List UInt8) (w : World) (h1 : Reads8 w A1 n1 p1) (h2 : Reads8 w A2 n2 p2) (hn1 : n1 ≤ maxLen) (hc1 : n1 ≤ c1) (hn2 : n2 ≤ maxLen) (hc2 : n2 ≤ c2) :
    Calls Try.prog 16 #[.slice A1 n1 c1, .slice A2 n2 c2] w fun e w' => e = .returned (.tuple #[sval (best2 p1 p2), .int .i64 (slotS (best2 p1 p2).gen.toNat : Int), .int .i64 (pickE p1 p2)]) ∧ Below w.heap.size w w' := by
  have HR1 := Lib.hid h1; clear h1
  have HR2 := Lib.hid h2; clear h2
  go_enter Try.func16, Try.ntmps16
  go_wp2_with (refine wl_alloc rfl (by rfl) ?_)
  intro W0 hb0 hm0 hs0
  have Z0 := Lib.hid hs0
  clear hs0
  go_wp2_with (refine wl_alloc rfl (by rfl) ?_)
  intro W1 hb1 hm1 hs1
  have hs0 := Z0.out
  rw [hs0] at hm1 hs1
  have HS := Lib.hid (show W1.heap.size = w.heap.size + 2 by omega)
  have H4 : Hid (MemC W1 w.heap.size 0 (scells noS)) := Lib.hid (hm0.keep hb1)
  have H7 : Hid (MemC W1 (w.heap.size + 1) 0 (scells noS)) := Lib.hid hm1
  have HB := Lib.hid (hb0.trans (hb1.mono hb0.size))
  rw [hs0]
  clear hb0 hm0 hs0 hb1 hm1 hs1
  go_wp2_with fail
  go_loopw [15] (fun i wr => ∃ k : Nat, k ≤ 2 ∧ i = .int .i64 (k : Int) ∧ MemC wr w.heap.size 0 (scells noS) ∧ MemC wr (w.heap.size + 1) 0 (scells (bestK p1 p2 k)) ∧ Below w.heap.size w wr) (fun i _ => 2 - (intOf i).toNat)
  case atStart => exact ⟨0, Nat.zero_le _, rfl, H4.out, H7.out, HB.out⟩
  case round =>
    obtain ⟨k, hk, rfl, g4, g7, gb⟩ := hrel
    have K4 := Lib.hid g4; clear g4
    have K7 := Lib.hid g7; clear g7
    have KB := Lib.hid gb; clear gb
    clear H4 H7 HB HS
    rcases (show k = 0 ∨ k = 1 ∨ k = 2 by omega) with rfl | rfl | rfl
    · have q7 : Hid (MemC wr (w.heap.size + 1) 0 (scells noS)) := K7
      have HU : Hid (bestK p1 p2 (0 + 1) = updS noS p1 0) := Lib.hid rfl
      clear K7
      obtain ⟨bb, hbb⟩ : ∃ bb, bb = noS := ⟨_, rfl⟩
      rw [← hbb] at q7 HU
      clear hbb
      clear hk
      rw [show ((0 : Nat) : Int) = 0 from rfl]
      have ix : ∀ w, (Instr.index 46 (.agg #[.slice A1 n1 c1, .slice A2 n2 c2]) (.int .i64 0)).run Try.prog w = .ok (.slice A1 n1 c1) w := fun _ => by kernel_rfl
      go_wp2_with fail
      refine (decode_any A1 n1 c1 p1 _ (HR1.out.keep KB.out) hn1 hc1).mono ?_
      rintro e W2 ⟨rfl, hb2⟩
      have L4 := Lib.hid (K4.out.keep hb2)
      have L7 := Lib.hid (q7.out.keep hb2)
      have LB := Lib.hid (KB.out.trans (hb2.mono KB.out.size))
      clear hb2 K4 q7 KB
      go_wp2_with (refine wl_new 10 (.tmp 22) rfl rfl rfl (by rfl) (decS p1) rfl rfl (by rfl) ?_)
      intro W3 hb3 hm3 hs3
      have M4 := Lib.hid (L4.out.keep hb3)
      have M7 := Lib.hid (L7.out.keep hb3)
      have MB := Lib.hid (LB.out.trans (hb3.mono LB.out.size))
      have MX := Lib.hid hm3
      have MZ : Hid (w.heap.size + 1 < W2.heap.size) := Lib.hid L7.out.at_.lt
      clear hb3 hm3 hs3 L4 L7 LB
      obtain ⟨d0, _⟩ := MX.out.gets 0 _ (scells_gen _)
      obtain ⟨b0, _⟩ := M7.out.gets 0 _ (scells_gen _)
      cases hi : isSup p1
      · have HE : Hid (decE p1 = 60) := Lib.hid (by unfold decE; rw [hi]; rfl)
        have HN : Hid (bestK p1 p2 (0 + 1) = bb) := Lib.hid (by rw [HU.out]; exact upd_no hi)
        clear hi d0 b0
        rw [HE.out]
        go_wp2_with fail
        go_roundw
        case rel => exact ⟨0 + 1, by decide, rfl, M4.out, by rw [HN.out]; exact M7.out, MB.out⟩
        case measure => decide
      · have HE : Hid (decE p1 = 0) := Lib.hid (by unfold decE; rw [hi]; rfl)
        have HD : Hid (decS p1 = supOf (bodyOf p1)) := Lib.hid (by unfold decS; rw [hi]; rfl)
        have HI := Lib.hid hi
        clear hi
        rw [HD.out] at d0
        rw [HE.out]
        by_cases hsl : slotS (supOf (bodyOf p1)).gen.toNat = 0
        · by_cases hls : bb.gen.toNat < (supOf (bodyOf p1)).gen.toNat
          · have HN : Hid (bestK p1 p2 (0 + 1) = supOf (bodyOf p1)) := Lib.hid (by rw [HU.out]; exact upd_yes HI.out hsl hls)
            have hls' : (bb.gen.toNat : Int) < ((supOf (bodyOf p1)).gen.toNat : Int) := by omega
            have HSL := Lib.hid hsl
            clear hsl hls
            go_wp2_with fail
            refine (slot_any (supOf (bodyOf p1)).gen _).mono ?_
            rintro e w' ⟨rfl, rfl⟩
            rw [HSL.out]
            go_wp2_with (first | refine wl_load (.tmp 10) rfl (by rfl) W2.heap.size (decS p1) rfl MX.out ?_ | refine wl_store (.tmp 7) (.tmp 40) rfl (by rfl) (w.heap.size + 1) bb (decS p1) rfl rfl M7.out ?_)
            intro W4 hb4 hm4
            have N4 := Lib.hid (M4.out.other (hb4.2.2.2.2 _ (by omega)) hb4.1)
            have N7 := Lib.hid hm4
            have NB := Lib.hid (MB.out.trans (hb4.below (Nat.le_succ _)))
            clear hb4 hm4 d0 b0
            go_wp2_with fail
            go_roundw
            case rel => exact ⟨0 + 1, by decide, rfl, N4.out, by rw [HN.out, ← HD.out]; exact N7.out, NB.out⟩
            case measure => decide
          · have HN : Hid (bestK p1 p2 (0 + 1) = bb) := Lib.hid (by rw [HU.out]; exact upd_less hls)
            have hls' : ¬ (bb.gen.toNat : Int) < ((supOf (bodyOf p1)).gen.toNat : Int) := by omega
            have HSL := Lib.hid hsl
            clear hsl hls
            go_wp2_with fail
            refine (slot_any (supOf (bodyOf p1)).gen _).mono ?_
            rintro e w' ⟨rfl, rfl⟩
            rw [HSL.out]
            go_wp2_with fail
            go_roundw
            case rel => exact ⟨0 + 1, by decide, rfl, M4.out, by rw [HN.out]; exact M7.out, MB.out⟩
            case measure => decide
        · have HN : Hid (bestK p1 p2 (0 + 1) = bb) := Lib.hid (by rw [HU.out]; exact upd_slot hsl)
          have hsl' : ¬ (slotS (supOf (bodyOf p1)).gen.toNat : Int) = 0 := fun e => hsl (Int.ofNat_inj.1 e)
          clear hsl
          go_wp2_with fail
          refine (slot_any (supOf (bodyOf p1)).gen _).mono ?_
          rintro e w' ⟨rfl, rfl⟩
          go_wp2_with fail
          go_roundw
          case rel => exact ⟨0 + 1, by decide, rfl, M4.out, by rw [HN.out]; exact M7.out, MB.out⟩
          case measure => decide
    · have q7 : Hid (MemC wr (w.heap.size + 1) 0 (scells (best1 p1))) := K7
      have HU : Hid (bestK p1 p2 (1 + 1) = updS (best1 p1) p2 1) := Lib.hid rfl
      clear K7
      obtain ⟨bb, hbb⟩ : ∃ bb, bb = (best1 p1) := ⟨_, rfl⟩
      rw [← hbb] at q7 HU
      clear hbb
      clear hk
      rw [show ((1 : Nat) : Int) = 1 from rfl]
      have ix : ∀ w, (Instr.index 46 (.agg #[.slice A1 n1 c1, .slice A2 n2 c2]) (.int .i64 1)).run Try.prog w = .ok (.slice A2 n2 c2) w := fun _ => by kernel_rfl
      go_wp2_with fail
      refine (decode_any A2 n2 c2 p2 _ (HR2.out.keep KB.out) hn2 hc2).mono ?_
      rintro e W2 ⟨rfl, hb2⟩
      have L4 := Lib.hid (K4.out.keep hb2)
      have L7 := Lib.hid (q7.out.keep hb2)
      have LB := Lib.hid (KB.out.trans (hb2.mono KB.out.size))
      clear hb2 K4 q7 KB
      go_wp2_with (refine wl_new 10 (.tmp 22) rfl rfl rfl (by rfl) (decS p2) rfl rfl (by rfl) ?_)
      intro W3 hb3 hm3 hs3
      have M4 := Lib.hid (L4.out.keep hb3)
      have M7 := Lib.hid (L7.out.keep hb3)
      have MB := Lib.hid (LB.out.trans (hb3.mono LB.out.size))
      have MX := Lib.hid hm3
      have MZ : Hid (w.heap.size + 1 < W2.heap.size) := Lib.hid L7.out.at_.lt
      clear hb3 hm3 hs3 L4 L7 LB
      obtain ⟨d0, _⟩ := MX.out.gets 0 _ (scells_gen _)
      obtain ⟨b0, _⟩ := M7.out.gets 0 _ (scells_gen _)
      cases hi : isSup p2
      · have HE : Hid (decE p2 = 60) := Lib.hid (by unfold decE; rw [hi]; rfl)
        have HN : Hid (bestK p1 p2 (1 + 1) = bb) := Lib.hid (by rw [HU.out]; exact upd_no hi)
        clear hi d0 b0
        rw [HE.out]
        go_wp2_with fail
        go_roundw
        case rel => exact ⟨1 + 1, by decide, rfl, M4.out, by rw [HN.out]; exact M7.out, MB.out⟩
        case measure => decide
      · have HE : Hid (decE p2 = 0) := Lib.hid (by unfold decE; rw [hi]; rfl)
        have HD : Hid (decS p2 = supOf (bodyOf p2)) := Lib.hid (by unfold decS; rw [hi]; rfl)
        have HI := Lib.hid hi
        clear hi
        rw [HD.out] at d0
        rw [HE.out]
        by_cases hsl : slotS (supOf (bodyOf p2)).gen.toNat = 1
        · by_cases hls : bb.gen.toNat < (supOf (bodyOf p2)).gen.toNat
          · have HN : Hid (bestK p1 p2 (1 + 1) = supOf (bodyOf p2)) := Lib.hid (by rw [HU.out]; exact upd_yes HI.out hsl hls)
            have hls' : (bb.gen.toNat : Int) < ((supOf (bodyOf p2)).gen.toNat : Int) := by omega
            have HSL := Lib.hid hsl
            clear hsl hls
            go_wp2_with fail
            refine (slot_any (supOf (bodyOf p2)).gen _).mono ?_
            rintro e w' ⟨rfl, rfl⟩
            rw [HSL.out]
            go_wp2_with (first | refine wl_load (.tmp 10) rfl (by rfl) W2.heap.size (decS p2) rfl MX.out ?_ | refine wl_store (.tmp 7) (.tmp 40) rfl (by rfl) (w.heap.size + 1) bb (decS p2) rfl rfl M7.out ?_)
            intro W4 hb4 hm4
            have N4 := Lib.hid (M4.out.other (hb4.2.2.2.2 _ (by omega)) hb4.1)
            have N7 := Lib.hid hm4
            have NB := Lib.hid (MB.out.trans (hb4.below (Nat.le_succ _)))
            clear hb4 hm4 d0 b0
            go_wp2_with fail
            go_roundw
            case rel => exact ⟨1 + 1, by decide, rfl, N4.out, by rw [HN.out, ← HD.out]; exact N7.out, NB.out⟩
            case measure => decide
          · have HN : Hid (bestK p1 p2 (1 + 1) = bb) := Lib.hid (by rw [HU.out]; exact upd_less hls)
            have hls' : ¬ (bb.gen.toNat : Int) < ((supOf (bodyOf p2)).gen.toNat : Int) := by omega
            have HSL := Lib.hid hsl
            clear hsl hls
            go_wp2_with fail
            refine (slot_any (supOf (bodyOf p2)).gen _).mono ?_
            rintro e w' ⟨rfl, rfl⟩
            rw [HSL.out]
            go_wp2_with fail
            go_roundw
            case rel => exact ⟨1 + 1, by decide, rfl, M4.out, by rw [HN.out]; exact M7.out, MB.out⟩
            case measure => decide
        · have HN : Hid (bestK p1 p2 (1 + 1) = bb) := Lib.hid (by rw [HU.out]; exact upd_slot hsl)
          have hsl' : ¬ (slotS (supOf (bodyOf p2)).gen.toNat : Int) = 1 := fun e => hsl (Int.ofNat_inj.1 e)
          clear hsl
          go_wp2_with fail
          refine (slot_any (supOf (bodyOf p2)).gen _).mono ?_
          rintro e w' ⟨rfl, rfl⟩
          go_wp2_with fail
          go_roundw
          case rel => exact ⟨1 + 1, by decide, rfl, M4.out, by rw [HN.out]; exact M7.out, MB.out⟩
          case measure => decide
    · have q7 : Hid (MemC wr (w.heap.size + 1) 0 (scells (best2 p1 p2))) := K7
      clear K7 hk
      rw [show ((2 : Nat) : Int) = 2 from rfl]
      obtain ⟨b0, _⟩ := q7.out.gets 0 _ (scells_gen _)
      by_cases hz : (best2 p1 p2).gen.toNat = 0
      · have HZ := Lib.hid hz
        rw [hz] at b0
        clear hz
        go_wp2_with (first | refine wl_build0 rfl (by rfl) ?_ | refine wl_store (.tmp 4) (.tmp 45) rfl (by rfl) w.heap.size noS noS rfl rfl K4.out ?_)
        intro W4 hb4 hm4
        have NB := Lib.hid (KB.out.trans (hb4.below (Nat.le_refl _)))
        have N4 := Lib.hid hm4
        clear hb4 hm4 b0
        go_wp2_with fail
        refine bodyPost_ret (v := .tuple #[sval noS, .int .i64 0, .int .i64 60]) (by simp [results, Try.results16, Sem.run_bind, Sem.run_pure, asAddr, load_var N4.out]) rfl ⟨?_, NB.out⟩
        unfold pickE
        rw [best2_zero HZ.out]
        rfl
      · have hz' : ¬ ((best2 p1 p2).gen.toNat : Int) = 0 := by omega
        have HZ := Lib.hid hz
        clear hz
        go_wp2_with fail
        refine wp_region_still_tail 4 (by kernel_rfl) (by kernel_rfl) ?_
        simp only [List.take_succ_cons, List.take_zero, List.drop_succ_cons, List.drop_zero]
        obtain ⟨WD, hWD⟩ : ∃ WD : World, WD = { wr with drawn := wr.drawn + 1 } := ⟨_, rfl⟩
        rw [← hWD]
        have D4 : Hid (MemC WD w.heap.size 0 (scells noS)) := Lib.hid (by rw [hWD]; exact K4.out.drew)
        have D7 : Hid (MemC WD (w.heap.size + 1) 0 (scells (best2 p1 p2))) := Lib.hid (by rw [hWD]; exact q7.out.drew)
        have DB : Hid (Below w.heap.size w WD) := Lib.hid (by rw [hWD]; exact KB.out.drew)
        clear hWD K4 q7 KB b0
        obtain ⟨b0, _⟩ := D7.out.gets 0 _ (scells_gen _)
        refine ws_load (.tmp 7) rfl (by rfl) (w.heap.size + 1) (best2 p1 p2) rfl D7.out ?_
        still_step
        still_step
        still_call ((slot_any (best2 p1 p2).gen _).mono fun e w' h => ⟨h.1, h.2.symm⟩)
        refine wpStill_nil ?_
        go_wp2_with (refine wl_store (.tmp 4) (.tmp 46) rfl (by rfl) w.heap.size noS (best2 p1 p2) rfl rfl D4.out ?_)
        intro W4 hb4 hm4
        have NB := Lib.hid (DB.out.trans (hb4.below (Nat.le_refl _)))
        have N4 := Lib.hid hm4
        clear hb4 hm4 b0
        go_wp2_with fail
        refine bodyPost_ret (v := .tuple #[sval (best2 p1 p2), .int .i64 (slotS (best2 p1 p2).gen.toNat : Int), .int .i64 0]) (by simp [results, Try.results16, Sem.run_bind, Sem.run_pure, asAddr, load_var N4.out]) rfl ⟨?_, NB.out⟩
        unfold pickE
        rw [if_neg HZ.out]

end Go.Proofs.Ytfnoeligaapnbaa
