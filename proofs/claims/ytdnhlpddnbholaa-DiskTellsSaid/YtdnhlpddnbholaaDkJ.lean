/-
  Disk.Crash.
-/
import Derived.Test.YtdnhlpddnbholaaDkI
namespace Go.Proofs.Ytdnhlpddnbholaa
open Go.RowKit
set_option linter.unusedVariables false
set_option linter.unusedSimpArgs false
attribute [local go_sem ↓] Go.wp_at_zero Go.wp_at_succ

def kcells (l : List Bool) : List Value := l.map .bool
theorem kcells_length (l : List Bool) : (kcells l).length = l.length := by simp [kcells]
def cval (K : Option Addr) (kn kc : Nat) (torn cut : Int) : Value := .agg #[.slice K kn kc, .int .i64 torn, .int .i64 cut]
theorem Cells.turn {F : Nat → Prop} {w w' : World} {A : Option Addr} {xs : List Value} (h : Cells w A xs) (ht : Turn F w w') (hb : ∀ a, A = some a → ¬ F a.block) : Cells w' A xs := fun h0 => by
  obtain ⟨b, o, e, hc⟩ := h h0
  exact ⟨b, o, e, hc.turn ht (hb _ e)⟩

theorem cells_turn_or {F : Nat → Prop} {w w' : World} {A : Option Addr} {xs : List Value} (h : Cells w A xs) (ht : Turn F w w') (hb : xs = [] ∨ ∀ a, A = some a → ¬ F a.block) : Cells w' A xs := by
  rcases hb with rfl | hb
  · exact Cells.nil _ _
  · exact h.turn ht hb
theorem Turn.after {G H : Nat → Prop} {a b c : World} (h : Turn G a b) (k : Turn H b c) (hH : ∀ j, H j → a.heap.size ≤ j) : Turn G a c :=
  ⟨k.os.trans h.os, k.tape.trans h.tape, k.output.trans h.output, Nat.le_trans h.size k.size, fun i h1 h2 => (k.block i (Nat.lt_of_lt_of_le h1 h.size) fun hi => by have := hH i hi; omega).trans (h.block i h1 h2)⟩
theorem zero_write : ((0 : Nat), List.replicate 128 (0 : UInt8)).2.length = 128 := List.length_replicate
section
variable {F : Nat → Prop} {p q : Nat} {D : Dk}
theorem crash_bad (w : World) (h : DiskAt F w p q D) (K : Option Addr) (kn kc : Nat) (torn cut : Int) (hc : cut < 0 ∨ 128 < cut) :
    Calls Try.prog 11 #[.pointer (some ⟨p, 0, none⟩), .agg #[.slice K kn kc, .int .i64 torn, .int .i64 cut]] w fun e w' => e = .returned (.int .i64 2) ∧ Below w.heap.size w w' := by
  have hq : ((mayE D) == 1) = false := by unfold mayE; split <;> rfl
  have hb1 : Below w.heap.size w (w.alloc (.cells #[.slice K kn kc, .int .i64 torn, .int .i64 cut] 25)) := (Below.refl _ w).alloc (Nat.le_refl _) _
  have HM := Lib.hid (may_any _ (h.keep hb1))
  have HB := Lib.hid hb1
  have m3 := MemC.new w [.slice K kn kc, .int .i64 torn, .int .i64 cut] 25
  obtain ⟨W1, hW1⟩ : ∃ W : World, W = w.alloc (.cells #[.slice K kn kc, .int .i64 torn, .int .i64 cut] 25) := ⟨_, rfl⟩
  generalize mayE D = me at *
  clear h hb1
  rcases (show cut < 0 ∨ (¬ cut < 0 ∧ 128 < cut) by omega) with h1 | ⟨h1, h2⟩
  all_goals
    clear hc
    go_enter Try.func11, Try.ntmps11
    go_wp2_with fail
    rw [← hW1] at HM HB ⊢
    replace m3 : MemC W1 w.heap.size 0 [.slice K kn kc, .int .i64 torn, .int .i64 cut] := by rw [hW1]; exact m3
    clear hW1
    obtain ⟨e2, _⟩ := m3.get 2 _ rfl
    refine HM.out.mono ?_
    rintro e w' ⟨rfl, rfl⟩
    go_wp2_with fail
    go_ret
    exact ⟨rfl, HB.out⟩

set_option maxRecDepth 100000 in
set_option maxHeartbeats 4000000 in
theorem crash_yes' (w : World) (h : DiskAt F w p q D) (K : Option Addr) (kn kc : Nat) (keep : List Bool) (torn : Int) (cut : Nat) (hkn : keep.length = kn) (hkk : kn ≤ maxLen) (hcs : Cells w K (kcells keep)) (hap : keep = [] ∨ Apart K q) (hc : cut ≤ 128) :
    Calls Try.prog 11 #[.pointer (some ⟨p, 0, none⟩), .agg #[.slice K kn kc, .int .i64 torn, .int .i64 (cut : Int)]] w fun e w' => e = .returned (.int .i64 0) ∧ DiskAt F w' p q ⟨crashK keep torn cut D D.waits.length, [], -1, false⟩ ∧ Turn F w w' := by
  have hq : ((mayE D) == 1) = false := by unfold mayE; split <;> rfl
  have hb1 : Below w.heap.size w (w.alloc (.cells #[.slice K kn kc, .int .i64 torn, .int .i64 (cut : Int)] 25)) := (Below.refl _ w).alloc (Nat.le_refl _) _
  have HM := Lib.hid (may_any _ (h.keep hb1))
  have m3 := MemC.new w [.slice K kn kc, .int .i64 torn, .int .i64 (cut : Int)] 25
  obtain ⟨W1, hW1⟩ : ∃ W : World, W = w.alloc (.cells #[.slice K kn kc, .int .i64 torn, .int .i64 (cut : Int)] 25) := ⟨_, rfl⟩
  generalize mayE D = me at *
  obtain ⟨c, v, h⟩ := h
  have HQW : Hid (q < w.heap.size) := Lib.hid h.lt.2
  have HPW : Hid (p < w.heap.size) := Lib.hid h.lt.1
  have D1 := Lib.hid (h.keep hb1)
  have C1 := Lib.hid (hcs.keep hb1)
  have T1 : Hid (Turn F w (w.alloc (.cells #[.slice K kn kc, .int .i64 torn, .int .i64 (cut : Int)] 25))) := Lib.hid (Turn.of_below hb1)
  have HAP := Lib.hid hap
  have HKN := Lib.hid hkn
  unfold maxLen at hkk
  have c0 : ¬ (cut : Int) < 0 := by omega
  have c1 : ¬ (128 : Int) < (cut : Int) := by omega
  clear h hb1 hcs hap hkn
  go_enter Try.func11, Try.ntmps11
  go_wp2_with fail
  rw [← hW1] at HM D1 C1 T1 ⊢
  replace m3 : MemC W1 w.heap.size 0 [.slice K kn kc, .int .i64 torn, .int .i64 (cut : Int)] := by rw [hW1]; exact m3
  have M1 := Lib.hid m3
  clear hW1
  obtain ⟨e2, _⟩ := m3.get 2 _ rfl
  clear m3
  refine HM.out.mono ?_
  rintro e w' ⟨rfl, rfl⟩
  obtain ⟨A, d, rfl, _, hnd, hdm, hcells⟩ := D1.out.slice
  have HC := Lib.hid hcells
  have hfew := D1.out.ok.few
  obtain ⟨h1, _⟩ := D1.out.head.get 1 _ rfl
  clear hcells HM
  go_wp2_with fail
  clear h1 e2 hq c0 c1
  go_loopw [27] (fun i wr => ∃ k : Nat, k ≤ D.waits.length ∧ i = .int .i64 (k : Int) ∧ DiskIn F wr p q c (.slice A D.waits.length d) { D with blks := crashK keep torn cut D k } ∧ Turn (fun j => j = q) W1 wr) (fun i _ => D.waits.length - (intOf i).toNat)
  case atStart => exact ⟨0, Nat.zero_le _, rfl, D1.out, Turn.refl _ _⟩
  case round =>
    obtain ⟨k, hk, rfl, hDk, hT⟩ := hrel
    have DK := Lib.hid hDk
    have TK := Lib.hid hT
    clear hDk hT
    by_cases hlt : k < D.waits.length
    · obtain ⟨A', d', e1, _, _, _, hc'⟩ := DK.out.slice
      obtain ⟨g, e2, hmg⟩ := hc' (by simpa using (Nat.lt_of_le_of_lt (Nat.zero_le _) hlt))
      injection e1 with e1 e3 e4
      subst e4
      subst e1
      subst e2
      have hw128 : ∀ x ∈ D.waits, x.2.length = 128 := fun x hx => (D1.out.ok.wait x hx).2
      have hat := write_at hw128 hmg.at_ k hlt
      have hyl := getD_length hw128 k
      have hyb := (D1.out.ok.waitAt k hlt).1
      have hfl : crashK keep torn cut D (k + 1) = if (k : Int) = torn then putB (crashK keep torn cut D k) (D.waits.getD k nW) cut else if keep.getD k false = true then putB (crashK keep torn cut D k) (D.waits.getD k nW) 128 else crashK keep torn cut D k := rfl
      have hlen := crashK_length keep torn cut D k
      obtain ⟨y, hy⟩ : ∃ y, D.waits.getD k nW = y := ⟨_, rfl⟩
      rw [hy] at hat hyl hyb hfl
      have HAT := Lib.hid hat
      have HFL := Lib.hid hfl
      have HYB := Lib.hid hyb
      have HLN := Lib.hid hlen
      have k0 : (0 : Int) ≤ (k : Int) := by omega
      have k1 : (k : Int) < (D.waits.length : Int) := by omega
      have kw : IntKind.i64.wrap ((k : Int) + 1) = (k : Int) + 1 := IntWalk.i64_in _ (by omega)
      clear hc' hmg hw128 hat hyb hfl hlen hy
      go_wp2_with (first | ((with_reducible refine wl_load (.tmp 30) ?_ ?_ g (k * 129) y hyl ?_ HAT.out ?_); rfl; rfl; rfl) | ((with_reducible refine wl_alloc ?_ ?_ ?_); rfl; rfl))
      intro wa hba hma hsa
      have DA := Lib.hid (DK.out.keep hba)
      have TA := Lib.hid (TK.out.trans (Turn.of_below hba))
      have lq := DK.out.lt
      have lw := TK.out.size
      obtain ⟨q7, hq7⟩ : ∃ y, y = wr.heap.size := ⟨_, rfl⟩
      have hsz : wr.heap.size ≤ q7 := Nat.le_of_eq hq7.symm
      rw [← hq7] at hma lq ⊢
      have hF7 := DK.out.new q7 hsz
      have HMA := Lib.hid hma
      have LQ := Lib.hid lq
      have HSZ : Hid (W1.heap.size ≤ q7) := Lib.hid (Nat.le_trans lw hsz)
      have HF7 := Lib.hid hF7
      have HGL : Hid (∀ j, (Value.slice (some ⟨g, 0, none⟩) D.waits.length d).ownBlock = some j → j < q7) := Lib.hid fun j hj => Nat.lt_of_lt_of_le (DK.out.waits.lt j hj).2 hsz
      clear hba hma hsa hq7 HAT DK TK lq lw hsz hF7
      go_wp2_with (refine wl_store (.tmp 7) (.tmp 31) rfl (by rfl) q7 (0, List.replicate 128 0) y zero_write hyl rfl rfl HMA.out ?_)
      intro w2 hw2 hm2
      have ht2 := hw2.turn
      have lq := LQ.out
      have D2 := Lib.hid (DA.out.turn ht2 (by omega) (by omega) (fun j hj e => by have := HGL.out j hj; omega))
      have X2 := Lib.hid hm2
      have T2 : Hid (Turn (fun j => j = q) W1 w2) := Lib.hid (TA.out.after ht2 fun j e => by have := HSZ.out; omega)
      clear hw2 hm2 ht2 lq DA TA HMA
      have M2 := Lib.hid (M1.out.turn T2.out (by have := HQW.out; omega))
      have C2 := Lib.hid (cells_turn_or C1.out T2.out (HAP.out.imp (fun h => by rw [h]; rfl) fun h a e hq => h a e hq))
      obtain ⟨t1, _⟩ := M2.out.get 1 _ rfl
      obtain ⟨t0, _⟩ := M2.out.get 0 _ rfl
      by_cases htk : (k : Int) = torn
      · have hq1 : ((k : Int) == torn) = true := by rw [htk]; simp
        have HK1 : Hid (crashK keep torn cut D (k + 1) = putB (crashK keep torn cut D k) y cut) := Lib.hid (by rw [HFL.out, if_pos htk])
        clear htk
        go_upto_region 10 with fail
        have bd : Below w2.heap.size w2 w2.drew := (Below.refl w2.heap.size w2).drew
        have D4 := Lib.hid (D2.out.keep bd)
        have X4 := Lib.hid (X2.out.keep bd)
        have T4 := Lib.hid (T2.out.trans (Turn.of_below bd))
        have M4 := Lib.hid (M2.out.keep bd)
        obtain ⟨W4, hW4⟩ : ∃ W : World, W = w2.drew := ⟨_, rfl⟩
        rw [← hW4] at D4 X4 T4 M4
        have hS4 : CellsAt W4 q7 0 (wcell y) ∧ W4.cell? ⟨w.heap.size, 2, none⟩ = some (.int .i64 (cut : Int)) := ⟨X4.out.at_, (M4.out.get 2 _ rfl).1⟩
        refine wp_region_held_drew (S := fun w' => CellsAt w' q7 0 (wcell y) ∧ w'.cell? ⟨w.heap.size, 2, none⟩ = some (.int .i64 (cut : Int))) (by kernel_rfl) (by rw [← hW4]; exact hS4) (fun hHeld => ?_)
        rw [← hW4] at hHeld ⊢
        clear hW4 bd D2 X2 T2 hS4
        refine wpAnyH_take (i := 0) (v := .pointer (some ⟨p, 0, none⟩)) rfl (by kernel_rfl) (by kernel_rfl) (by kernel_rfl) (fun _ _ _ h => h) (Or.inl ⟨by kernel_rfl, fun w _ => by go_simp⟩) hHeld ?_
        try simp only [Act.put, List.getElem_toArray, List.getElem_cons_succ, List.getElem_cons_zero, List.setIfInBounds_toArray, List.set_cons_zero, List.set_cons_succ]
        refine wpAnyH_take (i := 1) (v := .pointer (some ⟨p, 0, none⟩)) rfl (by kernel_rfl) (by kernel_rfl) (by kernel_rfl) (fun _ _ _ h => h) (Or.inl ⟨by kernel_rfl, fun w _ => by go_simp⟩) hHeld ?_
        try simp only [Act.put, List.getElem_toArray, List.getElem_cons_succ, List.getElem_cons_zero, List.setIfInBounds_toArray, List.set_cons_zero, List.set_cons_succ]
        refine wpAnyH_take (i := 2) (v := .pointer (some ⟨p, 0, none⟩)) rfl (by kernel_rfl) (by kernel_rfl) (by kernel_rfl) (fun _ _ _ h => h) (Or.inl ⟨by kernel_rfl, fun w _ => by go_simp⟩) hHeld ?_
        try simp only [Act.put, List.getElem_toArray, List.getElem_cons_succ, List.getElem_cons_zero, List.setIfInBounds_toArray, List.set_cons_zero, List.set_cons_succ]
        refine wpAnyH_take (i := 3) (v := wval y) rfl (by kernel_rfl) (by kernel_rfl) (by kernel_rfl) (fun _ _ _ h => h) (yieldsIf_load_mid (by rfl) 83 (.tmp 7) rfl q7 0 rfl (wcell y) _ (fun w h => h.1.rangeO) Try.underlying83 rfl (writeinfo y hyl)) hHeld ?_
        try simp only [Act.put, List.getElem_toArray, List.getElem_cons_succ, List.getElem_cons_zero, List.setIfInBounds_toArray, List.set_cons_zero, List.set_cons_succ]
        refine wpAnyH_take (i := 4) (v := .pointer (some ⟨w.heap.size, 2, none⟩)) rfl (by kernel_rfl) (by kernel_rfl) (by kernel_rfl) (fun _ _ _ h => h) (Or.inl ⟨by kernel_rfl, fun w _ => by go_simp⟩) hHeld ?_
        try simp only [Act.put, List.getElem_toArray, List.getElem_cons_succ, List.getElem_cons_zero, List.setIfInBounds_toArray, List.set_cons_zero, List.set_cons_succ]
        refine wpAnyH_take (i := 5) (v := .int .i64 (cut : Int)) rfl (by kernel_rfl) (by kernel_rfl) (by kernel_rfl) (fun _ _ _ h => h) (Or.inl ⟨by kernel_rfl, fun w h => by have hc := h.2; go_simp⟩) hHeld ?_
        try simp only [Act.put, List.getElem_toArray, List.getElem_cons_succ, List.getElem_cons_zero, List.setIfInBounds_toArray, List.set_cons_zero, List.set_cons_succ]
        refine wpAnyH_ready (rs := [6]) (by kernel_rfl) (by simp) ?_
        refine AllReadyH.cons rfl (fun K hK => ?_) AllReadyH.nil
        go_simp
        go_at_call 31
        refine (put_any _ D4.out y cut (by rw [HLN.out]; exact HYB.out) hyl hc).mono ?_
        rintro e w5 ⟨⟨u, rfl⟩, hD5, hT5⟩
        have lq := LQ.out
        have lw := HQW.out
        refine hK.out _ _ ⟨(X4.out.turn hT5 (by omega)).at_, ((M4.out.turn hT5 (by omega)).get 2 _ rfl).1⟩ (fun hHeld => ?_)
        try simp only [Act.put, List.getElem_toArray, List.getElem_cons_succ, List.getElem_cons_zero, List.setIfInBounds_toArray, List.set_cons_zero, List.set_cons_succ]
        refine wpAnyH_done (by kernel_rfl) ?_ _
        have D6 : Hid (DiskIn F w5 p q c (.slice (some ⟨g, 0, none⟩) D.waits.length d) { D with blks := crashK keep torn cut D (k + 1) }) := Lib.hid (by rw [HK1.out]; exact hD5)
        have T6 := Lib.hid (T4.out.trans hT5)
        clear hD5 hT5 hHeld lq lw hK
        go_wp2_with fail
        go_roundw
        case rel => exact ⟨k + 1, by omega, by go_num, D6.out, T6.out⟩
        case measure => simp [intOf]; omega
      · have hq1 : ((k : Int) == torn) = false := by simpa using htk
        have HK2 : Hid (crashK keep torn cut D (k + 1) = if keep.getD k false = true then putB (crashK keep torn cut D k) y 128 else crashK keep torn cut D k) := Lib.hid (by rw [HFL.out, if_neg htk])
        clear htk
        by_cases hkl : k < kn
        · have hkl2 : (k : Int) < (kn : Int) := by omega
          obtain ⟨kb, ko, rfl, hck⟩ := C2.out (by rw [kcells_length, HKN.out]; omega)
          have hcell := hck.cell k (by rw [kcells_length, HKN.out]; exact hkl)
          have hkk2 : k < keep.length := by rw [HKN.out]; exact hkl
          have hge : (kcells keep)[k]'(by rw [kcells_length]; exact hkk2) = .bool (keep.getD k false) := by simp [kcells, List.getD, hkk2]
          rw [hge] at hcell
          clear hge hck
          generalize keep.getD k false = bk at *
          cases bk
          · have HK1 : Hid (crashK keep torn cut D (k + 1) = crashK keep torn cut D k) := Lib.hid (by rw [HK2.out, if_neg (by decide)])
            have D6 : Hid (DiskIn F w2 p q c (.slice (some ⟨g, 0, none⟩) D.waits.length d) { D with blks := crashK keep torn cut D (k + 1) }) := Lib.hid (by rw [HK1.out]; exact D2.out)
            have T6 := T2
            go_wp2_with fail
            go_roundw
            case rel => exact ⟨k + 1, by omega, by go_num, D6.out, T6.out⟩
            case measure => simp [intOf]; omega
          · have HK1 : Hid (crashK keep torn cut D (k + 1) = putB (crashK keep torn cut D k) y 128) := Lib.hid (by rw [HK2.out, if_pos rfl])
            go_upto_region 12 with fail
            have bd : Below w2.heap.size w2 w2.drew := (Below.refl w2.heap.size w2).drew
            have D4 := Lib.hid (D2.out.keep bd)
            have X4 := Lib.hid (X2.out.keep bd)
            have T4 := Lib.hid (T2.out.trans (Turn.of_below bd))
            have M4 := Lib.hid (M2.out.keep bd)
            obtain ⟨W4, hW4⟩ : ∃ W : World, W = w2.drew := ⟨_, rfl⟩
            rw [← hW4] at D4 X4 T4 M4
            have hS4 : CellsAt W4 q7 0 (wcell y) := X4.out.at_
            refine wp_region_held_drew (S := fun w' => CellsAt w' q7 0 (wcell y)) (by kernel_rfl) (by rw [← hW4]; exact hS4) (fun hHeld => ?_)
            rw [← hW4] at hHeld ⊢
            clear hW4 bd D2 X2 T2 hS4
            refine wpAnyH_take (i := 0) (v := .pointer (some ⟨p, 0, none⟩)) rfl (by kernel_rfl) (by kernel_rfl) (by kernel_rfl) (fun _ _ _ h => h) (Or.inl ⟨by kernel_rfl, fun w _ => by go_simp⟩) hHeld ?_
            try simp only [Act.put, List.getElem_toArray, List.getElem_cons_succ, List.getElem_cons_zero, List.setIfInBounds_toArray, List.set_cons_zero, List.set_cons_succ]
            refine wpAnyH_take (i := 1) (v := .pointer (some ⟨p, 0, none⟩)) rfl (by kernel_rfl) (by kernel_rfl) (by kernel_rfl) (fun _ _ _ h => h) (Or.inl ⟨by kernel_rfl, fun w _ => by go_simp⟩) hHeld ?_
            try simp only [Act.put, List.getElem_toArray, List.getElem_cons_succ, List.getElem_cons_zero, List.setIfInBounds_toArray, List.set_cons_zero, List.set_cons_succ]
            refine wpAnyH_take (i := 2) (v := .pointer (some ⟨p, 0, none⟩)) rfl (by kernel_rfl) (by kernel_rfl) (by kernel_rfl) (fun _ _ _ h => h) (Or.inl ⟨by kernel_rfl, fun w _ => by go_simp⟩) hHeld ?_
            try simp only [Act.put, List.getElem_toArray, List.getElem_cons_succ, List.getElem_cons_zero, List.setIfInBounds_toArray, List.set_cons_zero, List.set_cons_succ]
            refine wpAnyH_take (i := 3) (v := wval y) rfl (by kernel_rfl) (by kernel_rfl) (by kernel_rfl) (fun _ _ _ h => h) (yieldsIf_load_mid (by rfl) 83 (.tmp 7) rfl q7 0 rfl (wcell y) _ (fun w h => h.rangeO) Try.underlying83 rfl (writeinfo y hyl)) hHeld ?_
            try simp only [Act.put, List.getElem_toArray, List.getElem_cons_succ, List.getElem_cons_zero, List.setIfInBounds_toArray, List.set_cons_zero, List.set_cons_succ]
            refine wpAnyH_ready (rs := [4]) (by kernel_rfl) (by simp) ?_
            refine AllReadyH.cons rfl (fun K hK => ?_) AllReadyH.nil
            go_simp
            go_at_call 31
            refine (put_any _ D4.out y 128 (by rw [HLN.out]; exact HYB.out) hyl (Nat.le_refl _)).mono ?_
            rintro e w5 ⟨⟨u, rfl⟩, hD5, hT5⟩
            have lq := LQ.out
            have lw := HQW.out
            refine hK.out _ _ (X4.out.turn hT5 (by omega)).at_ (fun hHeld => ?_)
            try simp only [Act.put, List.getElem_toArray, List.getElem_cons_succ, List.getElem_cons_zero, List.setIfInBounds_toArray, List.set_cons_zero, List.set_cons_succ]
            refine wpAnyH_done (by kernel_rfl) ?_ _
            have D6 : Hid (DiskIn F w5 p q c (.slice (some ⟨g, 0, none⟩) D.waits.length d) { D with blks := crashK keep torn cut D (k + 1) }) := Lib.hid (by rw [HK1.out]; exact hD5)
            have T6 := Lib.hid (T4.out.trans hT5)
            clear hD5 hT5 hHeld lq lw hK
            go_wp2_with fail
            go_roundw
            case rel => exact ⟨k + 1, by omega, by go_num, D6.out, T6.out⟩
            case measure => simp [intOf]; omega
        · have hkl2 : ¬ (k : Int) < (kn : Int) := by omega
          have HK1 : Hid (crashK keep torn cut D (k + 1) = crashK keep torn cut D k) := Lib.hid (by rw [HK2.out, if_neg]; rw [List.getD_eq_getElem?_getD, List.getElem?_eq_none (by rw [HKN.out]; omega)]; decide)
          have D6 : Hid (DiskIn F w2 p q c (.slice (some ⟨g, 0, none⟩) D.waits.length d) { D with blks := crashK keep torn cut D (k + 1) }) := Lib.hid (by rw [HK1.out]; exact D2.out)
          have T6 := T2
          go_wp2_with fail
          go_roundw
          case rel => exact ⟨k + 1, by omega, by go_num, D6.out, T6.out⟩
          case measure => simp [intOf]; omega
    · obtain rfl : k = D.waits.length := by omega
      have DE := Lib.hid DK.out
      obtain ⟨h1, f1⟩ := DK.out.head.get 1 _ rfl
      obtain ⟨h2, f2⟩ := DK.out.head.get 2 _ rfl
      obtain ⟨h3, f3⟩ := DK.out.head.get 3 _ rfl
      go_wp2_with fail
      go_ret
      have ht : Turn (fun j => j = p) wr (((wr.setCell ⟨p, 1, none⟩ (.slice none 0 0)).setCell ⟨p, 2, none⟩ (.int .i64 (-1))).setCell ⟨p, 3, none⟩ (.bool false)) := ((Turn.set (F := fun j => j = p) wr rfl _).trans (Turn.set (F := fun j => j = p) _ rfl _)).trans (Turn.set (F := fun j => j = p) _ rfl _)
      exact ⟨rfl, ⟨c, _, DE.out.empty (-1) false (by decide) (by decide) ht (by simp [World.setCell]) (by exact ((DE.out.head.setAt 1 (by simp) (.slice none 0 0)).setAt 2 (by simp) (.int .i64 (-1))).setAt 3 (by simp) (.bool false))⟩, (T1.out.trans (TK.out.mono fun j e => by rw [e]; exact DE.out.fq)).trans (ht.mono fun j e => by rw [e]; exact DE.out.fp)⟩
theorem crash_yes (w : World) (h : DiskAt F w p q D) (K : Option Addr) (kn kc : Nat) (keep : List Bool) (torn : Int) (cut : Nat) (hkn : keep.length = kn) (hkk : kn ≤ maxLen) (hcs : Cells w K (kcells keep)) (hap : Apart K q) (hc : cut ≤ 128) :
    Calls Try.prog 11 #[.pointer (some ⟨p, 0, none⟩), .agg #[.slice K kn kc, .int .i64 torn, .int .i64 (cut : Int)]] w fun e w' => e = .returned (.int .i64 0) ∧ DiskAt F w' p q ⟨crashK keep torn cut D D.waits.length, [], -1, false⟩ ∧ Turn F w w' :=
  crash_yes' w h K kn kc keep torn cut hkn hkk hcs (.inr hap) hc
end

end Go.Proofs.Ytdnhlpddnbholaa
