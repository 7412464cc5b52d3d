/-
  The document's disk: Crash.
-/
import Derived.Test.YtdnhlpddnbholaaDkZc
namespace Go.Proofs.Ytdnhlpddnbholaa
open Go.RowKit
set_option linter.unusedVariables false
set_option linter.unusedSimpArgs false
attribute [local go_sem ↓] Go.wp_at_zero Go.wp_at_succ

theorem cut_to (w : World) (l : List UInt8) (n : Nat) (h : n ≤ l.length) : (Instr.slice 9 (.string ⟨l.toArray⟩) none (some (.int .i64 (n : Int))) none).run Try.prog w = .ok (.string ⟨(l.take n).toArray⟩) w := by
  rw [run_slice_string_h w 9 ⟨l.toArray⟩ Try.underlying9 .i64 (n : Int) (by omega) (by rw [ByteArray.size_mk', List.size_toArray]; omega), ByteArray.extract_mk]
  simp
theorem cut_from (w : World) (l : List UInt8) (n : Nat) (h : n ≤ l.length) : (Instr.slice 9 (.string ⟨l.toArray⟩) (some (.int .i64 (n : Int))) none none).run Try.prog w = .ok (.string ⟨(l.drop n).toArray⟩) w := by
  rw [run_slice_string_l w 9 ⟨l.toArray⟩ Try.underlying9 .i64 (n : Int) (by omega) (by rw [ByteArray.size_mk', List.size_toArray]; omega), ByteArray.extract_mk, ByteArray.size_mk']
  congr 4
  rw [List.take_of_length_le (by simp)]
  simp

/-- How much of the k-th that waits comes through. -/
def cutN (keep : List Bool) (torn : Int) (cut k : Nat) : Nat := if (k : Int) = torn then cut else if keep.getD k false = true then 128 else 0
/-- What has come through behind the first k. -/
def crashC (keep : List Bool) (torn : Int) (cut : Nat) (D : Dk) (C : List (Nat × List UInt8)) : Nat → List (Nat × List UInt8)
  | 0 => C
  | k + 1 => crashC keep torn cut D C k ++ [((D.waits.getD k nW).1, (D.waits.getD k nW).2.take (cutN keep torn cut k) ++ (standsL (crashC keep torn cut D C k) (D.waits.getD k nW).1).drop (cutN keep torn cut k))]
theorem crashC_length (keep : List Bool) (torn : Int) (cut : Nat) (D : Dk) (C : List (Nat × List UInt8)) : ∀ k, (crashC keep torn cut D C k).length = C.length + k
  | 0 => rfl
  | k + 1 => by unfold crashC; rw [List.length_append, crashC_length keep torn cut D C k, List.length_singleton]; omega
theorem cutN_le (keep : List Bool) (torn : Int) (cut k : Nat) (h : cut ≤ 128) : cutN keep torn cut k ≤ 128 := by unfold cutN; split; exact h; split <;> omega
theorem crash_step_ok {D : Dk} (h : D.Ok) (keep : List Bool) (torn : Int) (cut : Nat) (hc : cut ≤ 128) (k : Nat) (hk : k ≤ D.waits.length) : ({ D with blks := crashK keep torn cut D k } : Dk).Ok := by
  have hl := crashK_length keep torn cut D k
  exact ⟨fun i hi => crashK_blk h keep torn cut hc k hk i (by simpa [hl] using hi), fun x hx => by show x.1 < (crashK keep torn cut D k).length ∧ _; rw [hl]; exact h.wait x hx, by show 16 ≤ (crashK keep torn cut D k).length; rw [hl]; exact h.pos, by show (crashK keep torn cut D k).length ≤ 4096; rw [hl]; exact h.many, h.few, h.lo, h.hi⟩
theorem crash_agree {D : Dk} {C : List (Nat × List UInt8)} (h : D.Ok) (keep : List Bool) (torn : Int) (cut : Nat) (hc : cut ≤ 128) (k : Nat) (hk : k < D.waits.length) (hag : ∀ a, a < D.blks.length → standsL C a = (crashK keep torn cut D k).getD a []) :
    ∀ a, a < D.blks.length → standsL (C ++ [((D.waits.getD k nW).1, (D.waits.getD k nW).2.take (cutN keep torn cut k) ++ (standsL C (D.waits.getD k nW).1).drop (cutN keep torn cut k))]) a = (crashK keep torn cut D (k + 1)).getD a [] := fun a ha => by
  obtain ⟨h1, h2⟩ := h.waitAt k hk
  have hl := crashK_length keep torn cut D k
  rw [standsL_snoc]
  have hput : ∀ c, (putB (crashK keep torn cut D k) (D.waits.getD k nW) c).getD a [] = if (D.waits.getD k nW).1 = a then (D.waits.getD k nW).2.take c ++ ((crashK keep torn cut D k).getD a []).drop c else (crashK keep torn cut D k).getD a [] := fun c => putB_get _ _ _ _ (by rw [hl]; exact h1)
  have hone : crashK keep torn cut D (k + 1) = if (k : Int) = torn then putB (crashK keep torn cut D k) (D.waits.getD k nW) cut else if keep.getD k false = true then putB (crashK keep torn cut D k) (D.waits.getD k nW) 128 else crashK keep torn cut D k := rfl
  have hst : (crashK keep torn cut D (k + 1)).getD a [] = if (D.waits.getD k nW).1 = a then (D.waits.getD k nW).2.take (cutN keep torn cut k) ++ ((crashK keep torn cut D k).getD a []).drop (cutN keep torn cut k) else (crashK keep torn cut D k).getD a [] := by
    rw [hone]
    unfold cutN
    split
    · exact hput cut
    · split
      · exact hput 128
      · split
        · simp
        · rfl
  rw [hst]
  by_cases e : (D.waits.getD k nW).1 = a
  · rw [if_pos e, if_pos e, e, hag a ha]
  · rw [if_neg e, if_neg e]
    exact hag a ha

section
variable {F : Nat → Prop} {r : Nat} {D : Dk} {C : List (Nat × List UInt8)}
theorem crashref_bad (w : World) (K : Option Addr) (kn kc : Nat) (torn cut : Int) (hc : cut < 0 ∨ 128 < cut) :
    Calls Try.prog 37 #[.pointer (some ⟨r, 0, none⟩), .agg #[.slice K kn kc, .int .i64 torn, .int .i64 cut]] w fun e w' => e = .returned (.int .i64 2) ∧ Below w.heap.size w w' := by
  by_cases h1 : cut < 0
  · clear hc
    go_enter Try.func37, Try.ntmps37
    go_wp2
    go_ret
    exact ⟨rfl, (Below.refl _ w).alloc (Nat.le_refl _) _⟩
  · have h2 : 128 < cut := by omega
    clear hc
    go_enter Try.func37, Try.ntmps37
    go_wp2
    go_ret
    exact ⟨rfl, (Below.refl _ w).alloc (Nat.le_refl _) _⟩

set_option maxRecDepth 100000 in
set_option maxHeartbeats 8000000 in
theorem crashref_in (w : World) (h : RefAt F w r D C) (K : Option Addr) (kn kc : Nat) (keep : List Bool) (torn : Int) (cut : Nat) (hkn : keep.length = kn) (hkk : kn ≤ maxLen) (hcs : Cells w K (kcells keep)) (hap : keep = [] ∨ Apart K r) (hc : cut ≤ 128) (hroom : C.length + D.waits.length ≤ 1000) :
    Calls Try.prog 37 #[.pointer (some ⟨r, 0, none⟩), .agg #[.slice K kn kc, .int .i64 torn, .int .i64 (cut : Int)]] w fun e w' => e = .returned (.int .i64 0) ∧ RefAt F w' r ⟨crashK keep torn cut D D.waits.length, [], -1, false⟩ (crashC keep torn cut D C D.waits.length) ∧ Turn (fun b => b = r) w w' := by
  obtain ⟨Ac, cc, Aw, wc, h⟩ := h
  have HOK := Lib.hid h.ok
  have HKN := Lib.hid hkn
  have HAP := Lib.hid (hap.imp (fun h => by rw [h]; rfl) (fun h a e hq => h a e hq) : kcells keep = [] ∨ ∀ a, K = some a → ¬ (fun b => b = r) a.block)
  unfold maxLen at hkk
  have c0 : ¬ (cut : Int) < 0 := by omega
  have c1 : ¬ (128 : Int) < (cut : Int) := by omega
  have hb1 : Below w.heap.size w (w.alloc (.cells #[.slice K kn kc, .int .i64 torn, .int .i64 (cut : Int)] 25)) := (Below.refl _ w).alloc (Nat.le_refl _) _
  have m3 := MemC.new w [.slice K kn kc, .int .i64 torn, .int .i64 (cut : Int)] 25
  obtain ⟨W1, hW1⟩ : ∃ W : World, W = w.alloc (.cells #[.slice K kn kc, .int .i64 torn, .int .i64 (cut : Int)] 25) := ⟨_, rfl⟩
  have hn0 : crashK keep torn cut D 0 = D.blks := rfl
  have R1 := Lib.hid (h.keep hb1)
  have M1 := Lib.hid m3
  have C1 := Lib.hid (hcs.keep hb1)
  have T1 := Lib.hid (Turn.of_below (F := fun b => b = r) hb1)
  have LR := Lib.hid h.lt
  clear h hb1 hcs hap hkn m3 hn0
  go_enter Try.func37, Try.ntmps37
  go_upto_region 3 with fail
  rw [show w.alloc (.cells [.slice K kn kc, .int .i64 torn, .int .i64 (cut : Int)].toArray 25) = W1 from hW1.symm] at M1
  rw [← hW1] at R1 C1 T1 ⊢
  obtain ⟨q3, hq3⟩ : ∃ y, y = w.heap.size := ⟨_, rfl⟩
  rw [← hq3] at M1 LR ⊢
  clear hW1 hq3
  go_wp2_with fail
  go_loopw [5] (fun i wr => ∃ k : Nat, k ≤ D.waits.length ∧ i = .int .i64 (k : Int) ∧ (∃ Ac cc, RefIn F wr r Ac cc Aw wc { D with blks := crashK keep torn cut D k } (crashC keep torn cut D C k)) ∧ Turn (fun b => b = r) W1 wr) (fun i _ => D.waits.length - (intOf i).toNat)
  case atStart => exact ⟨0, Nat.zero_le _, rfl, ⟨_, _, R1.out⟩, Turn.refl _ _⟩
  case round =>
    obtain ⟨k, hk, rfl, ⟨Ac, cc, hri⟩, ht⟩ := hrel
    have RK := Lib.hid hri
    have TK := Lib.hid ht
    have MK := Lib.hid (M1.out.turn ht (by have := LR.out; omega))
    have CK1 := Lib.hid (cells_turn_or C1.out ht HAP.out)
    clear hri ht R1 M1 C1
    obtain ⟨c2, f2⟩ := RK.out.head.get 2 _ rfl
    by_cases hlt : k < D.waits.length
    · have k0 : (0 : Int) ≤ (k : Int) := by omega
      have k1 : (k : Int) < (D.waits.length : Int) := by omega
      have kw : IntKind.i64.wrap ((k : Int) + 1) = (k : Int) + 1 := IntWalk.i64_in _ (by omega)
      obtain ⟨CK, hCK⟩ : ∃ CK, CK = crashC keep torn cut D C k := ⟨_, rfl⟩
      have HCK := Lib.hid hCK
      have hcl : CK.length + 1 ≤ 1000 := by rw [hCK, crashC_length]; omega
      rw [← hCK] at RK
      obtain ⟨b, o, rfl, hb, d0, d1⟩ := RK.out.waits.wait (k := k) hlt
      obtain ⟨x, hx⟩ : ∃ x, ({ D with blks := crashK keep torn cut D k } : Dk).waits.getD k nW = x := ⟨_, rfl⟩
      rw [hx] at d0 d1
      have HX := Lib.hid (show D.waits.getD k nW = x from hx)
      have HXL := Lib.hid (show x.2.length = 128 by rw [← hx]; exact (HOK.out.waitAt k hlt).2)
      clear hx hCK hb f2
      go_upto_region 8 with fail
      obtain ⟨w2, hw2⟩ : ∃ W : World, W = wr.alloc (.cells #[.int .i64 (x.1 : Int), .string ⟨x.2.toArray⟩] 97) := ⟨_, rfl⟩
      have hb : Below wr.heap.size wr w2 := by rw [hw2]; exact (Below.refl _ wr).alloc (Nat.le_refl _) _
      have hx2 : MemC w2 wr.heap.size 0 [.int .i64 (x.1 : Int), .string ⟨x.2.toArray⟩] := by rw [hw2]; exact MemC.new wr [.int .i64 (x.1 : Int), .string ⟨x.2.toArray⟩] _
      rw [← hw2]
      have R2 := Lib.hid (RK.out.keep hb)
      have M2 := Lib.hid (MK.out.keep hb)
      have C2 := Lib.hid (CK1.out.keep hb)
      have T2 := Lib.hid (TK.out.trans (Turn.of_below hb))
      have X2 := Lib.hid hx2
      have HQR := Lib.hid (show r < wr.heap.size from RK.out.lt)
      obtain ⟨q6, hq6⟩ : ∃ y, y = wr.heap.size := ⟨_, rfl⟩
      rw [← hq6] at X2 HQR ⊢
      clear hb hx2 hw2 hq6 RK MK CK1 TK c2 d0 d1
      obtain ⟨g0, _⟩ := M2.out.get 0 _ rfl
      obtain ⟨g1, _⟩ := M2.out.get 1 _ rfl
      obtain ⟨g2, _⟩ := M2.out.get 2 _ rfl
      have HCN : Hid (cutN keep torn cut k = if (k : Int) = torn then cut else if keep.getD k false = true then 128 else 0) := Lib.hid rfl
      by_cases hkl : k < kn
      · have hkl2 : (k : Int) < (kn : Int) := by omega
        obtain ⟨kb, ko, rfl, hck⟩ := C2.out (by rw [kcells_length, HKN.out]; omega)
        have hcell := hck.cell k (by rw [kcells_length, HKN.out]; exact hkl)
        have hkk2 : k < keep.length := by rw [HKN.out]; exact hkl
        have hge : (kcells keep)[k]'(by rw [kcells_length]; exact hkk2) = .bool (keep.getD k false) := by simp [kcells, List.getD, hkk2]
        rw [hge] at hcell
        clear hge hck
        obtain ⟨bk, hbk⟩ : ∃ bk, bk = keep.getD k false := ⟨_, rfl⟩
        rw [← hbk] at hcell HCN
        clear hbk
        cases bk
        · by_cases htk : (k : Int) = torn
          · have hq1 : ((k : Int) == torn) = true := by rw [htk]; simp
            obtain ⟨cn, hcn⟩ : ∃ cn : Nat, cn = cut := ⟨_, rfl⟩
            have HCNE : Hid (cutN keep torn cut k = cn) := Lib.hid (by rw [hcn, HCN.out]; rw [if_pos htk])
            have hcn128 : cn ≤ 128 := by omega
            have HCV := Lib.hid hcn
            clear htk HCN
            rw [← hcn] at g2
            clear hcn
            go_upto_region 12 with fail
            obtain ⟨W, hW⟩ : ∃ V : World, V = w2.drew := ⟨_, rfl⟩
            have bd : Below w2.heap.size w2 W := by rw [hW]; exact (Below.refl w2.heap.size w2).drew
            have RD := Lib.hid (R2.out.keep bd)
            have TD := Lib.hid (T2.out.trans (Turn.of_below bd))
            have XD := Lib.hid (X2.out.keep bd)
            have HS : Hid (∀ w', Below W.heap.size W w' → w'.cell? ⟨q6, 0, none⟩ = some (.int .i64 (x.1 : Int)) ∧ w'.cell? ⟨q6, 1, none⟩ = some (.string ⟨x.2.toArray⟩)) := Lib.hid fun w' hb => ⟨((XD.out.keep hb).get 0 _ rfl).1, ((XD.out.keep hb).get 1 _ rfl).1⟩
            refine wp_region_held_drew (S := fun w' => w'.cell? ⟨q6, 0, none⟩ = some (.int .i64 (x.1 : Int)) ∧ w'.cell? ⟨q6, 1, none⟩ = some (.string ⟨x.2.toArray⟩)) (by kernel_rfl) (by rw [← hW]; exact HS.out _ (Below.refl _ _)) (fun hHeld => ?_)
            rw [← hW] at hHeld ⊢
            have HC1 : Hid (∀ w', Below W.heap.size W w' → w'.cell? ⟨r, 1, none⟩ = some (.slice Ac CK.length cc)) := Lib.hid fun w' hb => ((RD.out.keep hb).head.get 1 _ rfl).1
            have HCM : Hid (∀ w', Below W.heap.size W w' → Cells w' Ac (tcells CK)) := Lib.hid fun w' hb => (RD.out.keep hb).came
            have BW := Lib.hid (Below.refl W.heap.size W)
            obtain ⟨N0, hN0⟩ : ∃ N, N = W.heap.size := ⟨_, rfl⟩
            rw [← hN0] at HS HC1 HCM BW
            have HN0 := Lib.hid hN0
            obtain ⟨sl, hsl⟩ : ∃ sl, sl = standsL CK x.1 := ⟨_, rfl⟩
            have HSL := Lib.hid hsl
            have hslen : sl.length = 128 := by rw [hsl]; exact standsL_length RD.out.cok _
            obtain ⟨T, hT⟩ : ∃ T, T = x.2.take cn ++ sl.drop cn := ⟨_, rfl⟩
            have HT := Lib.hid hT
            have HTL : Hid (T.length = 128) := Lib.hid (by rw [hT, List.length_append, List.length_take, List.length_drop, HXL.out, hslen]; omega)
            have E12 : Hid (∀ w, _) := Lib.hid (fun w => cut_to w x.2 cn (by rw [HXL.out]; exact hcn128))
            have E18 : Hid (∀ w, _) := Lib.hid (fun w => cut_from w sl cn (by rw [hslen]; exact hcn128))
            have E19 : Hid (∀ w, (Op.stringOp .add ⟨(x.2.take cn).toArray⟩ ⟨(sl.drop cn).toArray⟩).run Try.prog w = .ok (.string ⟨T.toArray⟩) w) := Lib.hid (fun w => by rw [hT]; exact run_string_add_lists w _ _ (by rw [List.length_take, HXL.out]; omega) (by rw [List.length_drop, hslen]; omega))
            clear hW bd R2 T2 X2 M2 C2 g0 g1 g2 hN0 hsl hT hslen
            refine wpAnyH_take (i := 0) (v := .pointer (some ⟨r, 0, none⟩)) rfl (by kernel_rfl) (by kernel_rfl) (by kernel_rfl) (fun _ _ _ h => h) (Or.inl ⟨by kernel_rfl, fun w _ => by go_simp⟩) hHeld ?_
            try simp only [Act.put, List.getElem_toArray, List.getElem_cons_succ, List.getElem_cons_zero, List.setIfInBounds_toArray, List.set_cons_zero, List.set_cons_succ]
            refine wpAnyH_take (i := 2) (v := .pointer (some ⟨r, 0, none⟩)) rfl (by kernel_rfl) (by kernel_rfl) (by kernel_rfl) (fun _ _ _ h => h) (Or.inl ⟨by kernel_rfl, fun w _ => by go_simp⟩) hHeld ?_
            try simp only [Act.put, List.getElem_toArray, List.getElem_cons_succ, List.getElem_cons_zero, List.setIfInBounds_toArray, List.set_cons_zero, List.set_cons_succ]
            refine wpAnyH_take (i := 3) (v := .pointer (some ⟨r, 0, none⟩)) rfl (by kernel_rfl) (by kernel_rfl) (by kernel_rfl) (fun _ _ _ h => h) (Or.inl ⟨by kernel_rfl, fun w _ => by go_simp⟩) hHeld ?_
            try simp only [Act.put, List.getElem_toArray, List.getElem_cons_succ, List.getElem_cons_zero, List.setIfInBounds_toArray, List.set_cons_zero, List.set_cons_succ]
            refine wpAnyH_take (i := 4) (v := .pointer (some ⟨r, 1, none⟩)) rfl (by kernel_rfl) (by kernel_rfl) (by kernel_rfl) (fun _ _ _ h => h) (Or.inl ⟨by kernel_rfl, fun w _ => by go_simp⟩) hHeld ?_
            try simp only [Act.put, List.getElem_toArray, List.getElem_cons_succ, List.getElem_cons_zero, List.setIfInBounds_toArray, List.set_cons_zero, List.set_cons_succ]
            refine wpAnyH_take (i := 7) (v := .pointer (some ⟨q6, 0, none⟩)) rfl (by kernel_rfl) (by kernel_rfl) (by kernel_rfl) (fun _ _ _ h => h) (Or.inl ⟨by kernel_rfl, fun w _ => by go_simp⟩) hHeld ?_
            try simp only [Act.put, List.getElem_toArray, List.getElem_cons_succ, List.getElem_cons_zero, List.setIfInBounds_toArray, List.set_cons_zero, List.set_cons_succ]
            refine wpAnyH_take (i := 8) (v := .int .i64 (x.1 : Int)) rfl (by kernel_rfl) (by kernel_rfl) (by kernel_rfl) (fun _ _ _ h => h) (Or.inl ⟨by kernel_rfl, fun w h => by have hc := h.1; go_simp⟩) hHeld ?_
            try simp only [Act.put, List.getElem_toArray, List.getElem_cons_succ, List.getElem_cons_zero, List.setIfInBounds_toArray, List.set_cons_zero, List.set_cons_succ]
            refine wpAnyH_take (i := 9) (v := .pointer (some ⟨q6, 1, none⟩)) rfl (by kernel_rfl) (by kernel_rfl) (by kernel_rfl) (fun _ _ _ h => h) (Or.inl ⟨by kernel_rfl, fun w _ => by go_simp⟩) hHeld ?_
            try simp only [Act.put, List.getElem_toArray, List.getElem_cons_succ, List.getElem_cons_zero, List.setIfInBounds_toArray, List.set_cons_zero, List.set_cons_succ]
            refine wpAnyH_take (i := 10) (v := .string ⟨x.2.toArray⟩) rfl (by kernel_rfl) (by kernel_rfl) (by kernel_rfl) (fun _ _ _ h => h) (Or.inl ⟨by kernel_rfl, fun w h => by have hc := h.2; go_simp⟩) hHeld ?_
            try simp only [Act.put, List.getElem_toArray, List.getElem_cons_succ, List.getElem_cons_zero, List.setIfInBounds_toArray, List.set_cons_zero, List.set_cons_succ]
            refine wpAnyH_take (i := 11) (v := .int .i64 (cn : Int)) rfl (by kernel_rfl) (by kernel_rfl) (by kernel_rfl) (fun _ _ _ h => h) (Or.inl ⟨by kernel_rfl, fun w _ => by go_simp⟩) hHeld ?_
            try simp only [Act.put, List.getElem_toArray, List.getElem_cons_succ, List.getElem_cons_zero, List.setIfInBounds_toArray, List.set_cons_zero, List.set_cons_succ]
            refine wpAnyH_take (i := 12) (v := .string ⟨(x.2.take cn).toArray⟩) rfl (by kernel_rfl) (by kernel_rfl) (by kernel_rfl) (fun _ _ _ h => h) (Or.inl ⟨by kernel_rfl, fun w h => by have he := E12.out w; go_simp⟩) hHeld ?_
            try simp only [Act.put, List.getElem_toArray, List.getElem_cons_succ, List.getElem_cons_zero, List.setIfInBounds_toArray, List.set_cons_zero, List.set_cons_succ]
            refine wpAnyH_take (i := 13) (v := .pointer (some ⟨r, 0, none⟩)) rfl (by kernel_rfl) (by kernel_rfl) (by kernel_rfl) (fun _ _ _ h => h) (Or.inl ⟨by kernel_rfl, fun w _ => by go_simp⟩) hHeld ?_
            try simp only [Act.put, List.getElem_toArray, List.getElem_cons_succ, List.getElem_cons_zero, List.setIfInBounds_toArray, List.set_cons_zero, List.set_cons_succ]
            refine wpAnyH_take (i := 14) (v := .pointer (some ⟨q6, 0, none⟩)) rfl (by kernel_rfl) (by kernel_rfl) (by kernel_rfl) (fun _ _ _ h => h) (Or.inl ⟨by kernel_rfl, fun w _ => by go_simp⟩) hHeld ?_
            try simp only [Act.put, List.getElem_toArray, List.getElem_cons_succ, List.getElem_cons_zero, List.setIfInBounds_toArray, List.set_cons_zero, List.set_cons_succ]
            refine wpAnyH_take (i := 15) (v := .int .i64 (x.1 : Int)) rfl (by kernel_rfl) (by kernel_rfl) (by kernel_rfl) (fun _ _ _ h => h) (Or.inl ⟨by kernel_rfl, fun w h => by have hc := h.1; go_simp⟩) hHeld ?_
            try simp only [Act.put, List.getElem_toArray, List.getElem_cons_succ, List.getElem_cons_zero, List.setIfInBounds_toArray, List.set_cons_zero, List.set_cons_succ]
            refine wpAnyH_take (i := 17) (v := .int .i64 (cn : Int)) rfl (by kernel_rfl) (by kernel_rfl) (by kernel_rfl) (fun _ _ _ h => h) (Or.inl ⟨by kernel_rfl, fun w _ => by go_simp⟩) hHeld ?_
            try simp only [Act.put, List.getElem_toArray, List.getElem_cons_succ, List.getElem_cons_zero, List.setIfInBounds_toArray, List.set_cons_zero, List.set_cons_succ]
            refine wpAnyH_ready (rs := [1, 5]) (by kernel_rfl) (by simp) ?_
            refine AllReadyH.cons rfl (fun K hK => ?_) (AllReadyH.cons rfl (fun K hK => ?_) AllReadyH.nil)
            · go_simp
              have ba : Below W.heap.size W (W.alloc (.cells #[] 97)) := (Below.refl _ W).alloc (Nat.le_refl _) _
              have Ew3 := Lib.hid (own_empty_at W N0 (by have := HN0.out; have := BW.out.size; omega))
              have Bw3 := Lib.hid (BW.out.trans (ba.mono (by have := HN0.out; have := BW.out.size; omega)))
              obtain ⟨g0, hg0⟩ : ∃ y, y = W.heap.size := ⟨_, rfl⟩
              obtain ⟨w3, hw⟩ : ∃ V : World, V = W.alloc (.cells #[] 97) := ⟨_, rfl⟩
              rw [← hw] at Ew3 Bw3 ⊢
              rw [← hg0] at Ew3 ⊢
              clear hw ba hg0
              refine hK.out _ _ (HS.out _ Bw3.out) (fun hHeld => ?_)
              try simp only [Act.put, List.getElem_toArray, List.getElem_cons_succ, List.getElem_cons_zero, List.setIfInBounds_toArray, List.set_cons_zero, List.set_cons_succ]
              refine wpAnyH_ready (rs := [5]) (by kernel_rfl) (by simp) ?_
              refine AllReadyH.cons rfl (fun K hK => ?_) AllReadyH.nil
              have hcc := HC1.out _ Bw3.out
              go_simp
              clear hcc
              refine hK.out _ _ hHeld (fun hHeld => ?_)
              try simp only [Act.put, List.getElem_toArray, List.getElem_cons_succ, List.getElem_cons_zero, List.setIfInBounds_toArray, List.set_cons_zero, List.set_cons_succ]
              refine wpAnyH_ready (rs := [6]) (by kernel_rfl) (by simp) ?_
              refine AllReadyH.cons rfl (fun K hK => ?_) AllReadyH.nil
              rw [if_pos (show Region.wanted _ _ = true by kernel_rfl)]
              refine wp_appendC (.tmp 51) (.tmp 55) 49 rfl N0 97 (.agg #[.int .i64 0, .string ⟨#[]⟩]) 2 24 Try.underlying49 waitinfo rfl (by omega) (.slice (some ⟨g0, 0, none⟩) 0 0) 0 (tcells []) rfl Ew3.out Ac CK.length cc (tcells CK) rfl (tcells_length _) (HCM.out _ Bw3.out) (tcell_oneCell _) (by simp only [maxLen]; omega) (by omega) (by have := HN0.out; have := Bw3.out.size; omega) ?_
              intro v1 w5 hown hgrow _ _
              rw [show tcells [] ++ tcells CK = tcells CK from rfl] at hown
              try rw [Nat.zero_add] at hown
              have Bw5 := Lib.hid (Bw3.out.grown hgrow (by have := HN0.out; have := Bw3.out.size; omega) (own_base Ew3.out))
              have Ow5 := Lib.hid hown
              clear hown hgrow
              refine hK.out _ _ (HS.out _ Bw5.out) (fun hHeld => ?_)
              try simp only [Act.put, List.getElem_toArray, List.getElem_cons_succ, List.getElem_cons_zero, List.setIfInBounds_toArray, List.set_cons_zero, List.set_cons_succ]
              refine wpAnyH_ready (rs := [16]) (by kernel_rfl) (by simp) ?_
              refine AllReadyH.cons rfl (fun K hK => ?_) AllReadyH.nil
              go_simp
              go_at_call 44
              have hst := stands_any _ (show RefAt F w5 r _ CK from ⟨_, _, _, _, RD.out.keep (by have := Bw5.out; rwa [HN0.out] at this)⟩) x.1
              rw [← HSL.out] at hst
              refine hst.mono ?_
              rintro e w6 ⟨rfl, hb6⟩
              have B6 := Lib.hid (Bw5.out.trans (hb6.mono (by have := HN0.out; have := Bw5.out.size; omega)))
              have O6 := Lib.hid (own_keep Ow5.out hb6)
              clear hb6
              refine hK.out _ _ (HS.out _ B6.out) (fun hHeld => ?_)
              try simp only [Act.put, List.getElem_toArray, List.getElem_cons_succ, List.getElem_cons_zero, List.setIfInBounds_toArray, List.set_cons_zero, List.set_cons_succ]
              refine wpAnyH_take (i := 18) (v := .string ⟨(sl.drop cn).toArray⟩) rfl (by kernel_rfl) (by kernel_rfl) (by kernel_rfl) (fun _ _ _ h => h) (Or.inl ⟨by kernel_rfl, fun w h => by have he := E18.out w; go_simp⟩) hHeld ?_
              try simp only [Act.put, List.getElem_toArray, List.getElem_cons_succ, List.getElem_cons_zero, List.setIfInBounds_toArray, List.set_cons_zero, List.set_cons_succ]
              refine wpAnyH_take (i := 19) (v := .string ⟨T.toArray⟩) rfl (by kernel_rfl) (by kernel_rfl) (by kernel_rfl) (fun _ _ _ h => h) (Or.inl ⟨by kernel_rfl, fun w h => by have he := E19.out w; go_simp⟩) hHeld ?_
              try simp only [Act.put, List.getElem_toArray, List.getElem_cons_succ, List.getElem_cons_zero, List.setIfInBounds_toArray, List.set_cons_zero, List.set_cons_succ]
              refine wpAnyH_take (i := 20) (v := .agg #[.int .i64 (x.1 : Int), .string ⟨T.toArray⟩]) rfl (by kernel_rfl) (by kernel_rfl) (by kernel_rfl) (fun _ _ _ h => h) (Or.inl ⟨by kernel_rfl, fun w _ => by go_simp⟩) hHeld ?_
              try simp only [Act.put, List.getElem_toArray, List.getElem_cons_succ, List.getElem_cons_zero, List.setIfInBounds_toArray, List.set_cons_zero, List.set_cons_succ]
              refine wpAnyH_ready (rs := [21]) (by kernel_rfl) (by simp) ?_
              refine AllReadyH.cons rfl (fun K hK => ?_) AllReadyH.nil
              go_simp
              have ba : Below w6.heap.size w6 (w6.alloc (.cells #[.int .i64 (x.1 : Int), .string ⟨T.toArray⟩] 97)) := (Below.refl _ w6).alloc (Nat.le_refl _) _
              have X7 := Lib.hid (MemC.new w6 (tcells [(x.1, T)]) 97)
              have B7 := Lib.hid (B6.out.trans (ba.mono (by have := HN0.out; have := B6.out.size; omega)))
              have O7 := Lib.hid (O6.out.alloc (.cells #[.int .i64 (x.1 : Int), .string ⟨T.toArray⟩] 97))
              obtain ⟨gx, hgx⟩ : ∃ y, y = w6.heap.size := ⟨_, rfl⟩
              obtain ⟨w7, hw⟩ : ∃ V : World, V = w6.alloc (.cells #[.int .i64 (x.1 : Int), .string ⟨T.toArray⟩] 97) := ⟨_, rfl⟩
              rw [show (w6.alloc (.cells (tcells [(x.1, T)]).toArray 97)) = w7 by rw [hw]; rfl] at X7
              rw [← hw] at B7 O7 ⊢
              rw [← hgx] at X7 ⊢
              clear hw ba hgx
              refine hK.out _ _ (HS.out _ B7.out) (fun hHeld => ?_)
              try simp only [Act.put, List.getElem_toArray, List.getElem_cons_succ, List.getElem_cons_zero, List.setIfInBounds_toArray, List.set_cons_zero, List.set_cons_succ]
              refine wpAnyH_ready (rs := [22]) (by kernel_rfl) (by simp) ?_
              refine AllReadyH.cons rfl (fun K hK => ?_) AllReadyH.nil
              rw [if_pos (show Region.wanted _ _ = true by kernel_rfl)]
              refine wp_appendC (.tmp 56) (.tmp 71) 49 rfl N0 97 (.agg #[.int .i64 0, .string ⟨#[]⟩]) 2 24 Try.underlying49 waitinfo rfl (by omega) v1 CK.length (tcells CK) rfl O7.out (some ⟨gx, 0, none⟩) 1 1 (tcells [(x.1, T)]) rfl rfl X7.out.cells (tcell_oneCell _) (by simp only [maxLen]; omega) (by omega) (by have := HN0.out; have := B7.out.size; omega) ?_
              intro v2 w9 hown hgrow _ _
              have hb4 := B7.out.grown hgrow (by have := HN0.out; have := B7.out.size; omega) (own_base O7.out)
              rw [← tcells_append] at hown
              obtain ⟨A4, c4, rfl, hl4, hc4, hn4, hm4, ha4⟩ := own_readsT hown
              have HS9 := Lib.hid (HS.out _ hb4)
              rw [HN0.out] at hb4 ha4
              have B4 := Lib.hid hb4
              have C4 := Lib.hid hc4
              have A4L := Lib.hid ha4
              clear hown hgrow hb4 hc4 ha4
              refine hK.out _ _ HS9.out (fun hHeld => ?_)
              try simp only [Act.put, List.getElem_toArray, List.getElem_cons_succ, List.getElem_cons_zero, List.setIfInBounds_toArray, List.set_cons_zero, List.set_cons_succ]
              refine wpAnyH_take (i := 23) (v := .pointer (some ⟨r, 0, none⟩)) rfl (by kernel_rfl) (by kernel_rfl) (by kernel_rfl) (fun _ _ _ h => h) (Or.inl ⟨by kernel_rfl, fun w _ => by go_simp⟩) hHeld ?_
              try simp only [Act.put, List.getElem_toArray, List.getElem_cons_succ, List.getElem_cons_zero, List.setIfInBounds_toArray, List.set_cons_zero, List.set_cons_succ]
              refine wpAnyH_take (i := 24) (v := .pointer (some ⟨r, 1, none⟩)) rfl (by kernel_rfl) (by kernel_rfl) (by kernel_rfl) (fun _ _ _ h => h) (Or.inl ⟨by kernel_rfl, fun w _ => by go_simp⟩) hHeld ?_
              try simp only [Act.put, List.getElem_toArray, List.getElem_cons_succ, List.getElem_cons_zero, List.setIfInBounds_toArray, List.set_cons_zero, List.set_cons_succ]
              have RE := RD.out.keep B4.out
              obtain ⟨j1, j2⟩ := RE.head.get 1 _ rfl
              refine wpAnyH_ready (rs := [25]) (by kernel_rfl) (by simp) ?_
              refine AllReadyH.cons rfl (fun K hK => ?_) AllReadyH.nil
              go_simp
              clear j1 j2 RE
              have hok2 := crash_step_ok HOK.out keep torn cut hc (k + 1) (by omega)
              have hT2 : CK ++ [(x.1, T)] = crashC keep torn cut D C (k + 1) := by
                show _ = crashC keep torn cut D C k ++ [_]
                rw [← HCK.out, HX.out, HCNE.out, ← HSL.out, ← HT.out]
              have hfin := RD.out.gone (D' := { D with blks := crashK keep torn cut D (k + 1) }) (C' := CK ++ [(x.1, T)]) B4.out C4.out A4L.out (by rw [hl4]; exact hn4) hm4 hok2 rfl (by show (crashK keep torn cut D (k + 1)).length = (crashK keep torn cut D k).length; rw [crashK_length, crashK_length]) rfl rfl (fun y hy => by
                rcases List.mem_append.1 hy with h | h
                · exact RD.out.cok y h
                · rw [List.mem_singleton.1 h]; exact HTL.out) (by
                have hag := RD.out.agree
                have h2 := crash_agree (C := CK) HOK.out keep torn cut hc k hlt (fun a ha => hag a (by show a < (crashK keep torn cut D k).length; rw [crashK_length]; exact ha))
                rw [HX.out, HCNE.out, ← HSL.out, ← HT.out] at h2
                intro a ha
                exact h2 a (by have : a < (crashK keep torn cut D k).length := ha; rwa [crashK_length] at this)) (by rw [List.length_append, List.length_singleton]; omega)
              rw [hl4] at hfin
              have R5 : Hid (∃ Ac cc, RefIn F (w9.setCell ⟨r, 1, none⟩ (.slice A4 (CK.length + 1) c4)) r Ac cc (some ⟨b, o, none⟩) wc { D with blks := crashK keep torn cut D (k + 1) } (crashC keep torn cut D C (k + 1))) := Lib.hid ⟨_, _, by rw [← hT2]; exact hfin⟩
              have T5 := Lib.hid ((TD.out.trans (Turn.of_below B4.out)).trans (Turn.set (F := fun b => b = r) (i := 1) w9 rfl (.slice A4 (CK.length + 1) c4)))
              have far : ∀ i, (w9.setCell ⟨r, 1, none⟩ (.slice A4 (CK.length + 1) c4)).cell? ⟨q6, i, none⟩ = w9.cell? ⟨q6, i, none⟩ := fun i => World.cell?_setCell_other w9 ⟨r, 1, none⟩ ⟨q6, i, none⟩ _ (fun e => by injection e with e; have := HQR.out; omega)
              refine hK.out _ _ ⟨(far _).trans HS9.out.1, (far _).trans HS9.out.2⟩ (fun hHeld => ?_)
              try simp only [Act.put, List.getElem_toArray, List.getElem_cons_succ, List.getElem_cons_zero, List.setIfInBounds_toArray, List.set_cons_zero, List.set_cons_succ]
              clear hfin hok2 far hT2
              refine wpAnyH_done (by kernel_rfl) ?_ _
              clear hHeld
              go_wp2_with fail
              go_roundw
              case rel => exact ⟨k + 1, by omega, by go_num, R5.out, T5.out⟩
              case measure => simp [intOf]; omega
            · have hcc := HC1.out _ BW.out
              go_simp
              clear hcc
              refine hK.out _ _ hHeld (fun hHeld => ?_)
              try simp only [Act.put, List.getElem_toArray, List.getElem_cons_succ, List.getElem_cons_zero, List.setIfInBounds_toArray, List.set_cons_zero, List.set_cons_succ]
              refine wpAnyH_ready (rs := [1]) (by kernel_rfl) (by simp) ?_
              refine AllReadyH.cons rfl (fun K hK => ?_) AllReadyH.nil
              go_simp
              have ba : Below W.heap.size W (W.alloc (.cells #[] 97)) := (Below.refl _ W).alloc (Nat.le_refl _) _
              have Ew4 := Lib.hid (own_empty_at W N0 (by have := HN0.out; have := BW.out.size; omega))
              have Bw4 := Lib.hid (BW.out.trans (ba.mono (by have := HN0.out; have := BW.out.size; omega)))
              obtain ⟨g0, hg0⟩ : ∃ y, y = W.heap.size := ⟨_, rfl⟩
              obtain ⟨w4, hw⟩ : ∃ V : World, V = W.alloc (.cells #[] 97) := ⟨_, rfl⟩
              rw [← hw] at Ew4 Bw4 ⊢
              rw [← hg0] at Ew4 ⊢
              clear hw ba hg0
              refine hK.out _ _ (HS.out _ Bw4.out) (fun hHeld => ?_)
              try simp only [Act.put, List.getElem_toArray, List.getElem_cons_succ, List.getElem_cons_zero, List.setIfInBounds_toArray, List.set_cons_zero, List.set_cons_succ]
              refine wpAnyH_ready (rs := [6]) (by kernel_rfl) (by simp) ?_
              refine AllReadyH.cons rfl (fun K hK => ?_) AllReadyH.nil
              rw [if_pos (show Region.wanted _ _ = true by kernel_rfl)]
              refine wp_appendC (.tmp 51) (.tmp 55) 49 rfl N0 97 (.agg #[.int .i64 0, .string ⟨#[]⟩]) 2 24 Try.underlying49 waitinfo rfl (by omega) (.slice (some ⟨g0, 0, none⟩) 0 0) 0 (tcells []) rfl Ew4.out Ac CK.length cc (tcells CK) rfl (tcells_length _) (HCM.out _ Bw4.out) (tcell_oneCell _) (by simp only [maxLen]; omega) (by omega) (by have := HN0.out; have := Bw4.out.size; omega) ?_
              intro v1 w5 hown hgrow _ _
              rw [show tcells [] ++ tcells CK = tcells CK from rfl] at hown
              try rw [Nat.zero_add] at hown
              have Bw5 := Lib.hid (Bw4.out.grown hgrow (by have := HN0.out; have := Bw4.out.size; omega) (own_base Ew4.out))
              have Ow5 := Lib.hid hown
              clear hown hgrow
              refine hK.out _ _ (HS.out _ Bw5.out) (fun hHeld => ?_)
              try simp only [Act.put, List.getElem_toArray, List.getElem_cons_succ, List.getElem_cons_zero, List.setIfInBounds_toArray, List.set_cons_zero, List.set_cons_succ]
              refine wpAnyH_ready (rs := [16]) (by kernel_rfl) (by simp) ?_
              refine AllReadyH.cons rfl (fun K hK => ?_) AllReadyH.nil
              go_simp
              go_at_call 44
              have hst := stands_any _ (show RefAt F w5 r _ CK from ⟨_, _, _, _, RD.out.keep (by have := Bw5.out; rwa [HN0.out] at this)⟩) x.1
              rw [← HSL.out] at hst
              refine hst.mono ?_
              rintro e w6 ⟨rfl, hb6⟩
              have B6 := Lib.hid (Bw5.out.trans (hb6.mono (by have := HN0.out; have := Bw5.out.size; omega)))
              have O6 := Lib.hid (own_keep Ow5.out hb6)
              clear hb6
              refine hK.out _ _ (HS.out _ B6.out) (fun hHeld => ?_)
              try simp only [Act.put, List.getElem_toArray, List.getElem_cons_succ, List.getElem_cons_zero, List.setIfInBounds_toArray, List.set_cons_zero, List.set_cons_succ]
              refine wpAnyH_take (i := 18) (v := .string ⟨(sl.drop cn).toArray⟩) rfl (by kernel_rfl) (by kernel_rfl) (by kernel_rfl) (fun _ _ _ h => h) (Or.inl ⟨by kernel_rfl, fun w h => by have he := E18.out w; go_simp⟩) hHeld ?_
              try simp only [Act.put, List.getElem_toArray, List.getElem_cons_succ, List.getElem_cons_zero, List.setIfInBounds_toArray, List.set_cons_zero, List.set_cons_succ]
              refine wpAnyH_take (i := 19) (v := .string ⟨T.toArray⟩) rfl (by kernel_rfl) (by kernel_rfl) (by kernel_rfl) (fun _ _ _ h => h) (Or.inl ⟨by kernel_rfl, fun w h => by have he := E19.out w; go_simp⟩) hHeld ?_
              try simp only [Act.put, List.getElem_toArray, List.getElem_cons_succ, List.getElem_cons_zero, List.setIfInBounds_toArray, List.set_cons_zero, List.set_cons_succ]
              refine wpAnyH_take (i := 20) (v := .agg #[.int .i64 (x.1 : Int), .string ⟨T.toArray⟩]) rfl (by kernel_rfl) (by kernel_rfl) (by kernel_rfl) (fun _ _ _ h => h) (Or.inl ⟨by kernel_rfl, fun w _ => by go_simp⟩) hHeld ?_
              try simp only [Act.put, List.getElem_toArray, List.getElem_cons_succ, List.getElem_cons_zero, List.setIfInBounds_toArray, List.set_cons_zero, List.set_cons_succ]
              refine wpAnyH_ready (rs := [21]) (by kernel_rfl) (by simp) ?_
              refine AllReadyH.cons rfl (fun K hK => ?_) AllReadyH.nil
              go_simp
              have ba : Below w6.heap.size w6 (w6.alloc (.cells #[.int .i64 (x.1 : Int), .string ⟨T.toArray⟩] 97)) := (Below.refl _ w6).alloc (Nat.le_refl _) _
              have X7 := Lib.hid (MemC.new w6 (tcells [(x.1, T)]) 97)
              have B7 := Lib.hid (B6.out.trans (ba.mono (by have := HN0.out; have := B6.out.size; omega)))
              have O7 := Lib.hid (O6.out.alloc (.cells #[.int .i64 (x.1 : Int), .string ⟨T.toArray⟩] 97))
              obtain ⟨gx, hgx⟩ : ∃ y, y = w6.heap.size := ⟨_, rfl⟩
              obtain ⟨w7, hw⟩ : ∃ V : World, V = w6.alloc (.cells #[.int .i64 (x.1 : Int), .string ⟨T.toArray⟩] 97) := ⟨_, rfl⟩
              rw [show (w6.alloc (.cells (tcells [(x.1, T)]).toArray 97)) = w7 by rw [hw]; rfl] at X7
              rw [← hw] at B7 O7 ⊢
              rw [← hgx] at X7 ⊢
              clear hw ba hgx
              refine hK.out _ _ (HS.out _ B7.out) (fun hHeld => ?_)
              try simp only [Act.put, List.getElem_toArray, List.getElem_cons_succ, List.getElem_cons_zero, List.setIfInBounds_toArray, List.set_cons_zero, List.set_cons_succ]
              refine wpAnyH_ready (rs := [22]) (by kernel_rfl) (by simp) ?_
              refine AllReadyH.cons rfl (fun K hK => ?_) AllReadyH.nil
              rw [if_pos (show Region.wanted _ _ = true by kernel_rfl)]
              refine wp_appendC (.tmp 56) (.tmp 71) 49 rfl N0 97 (.agg #[.int .i64 0, .string ⟨#[]⟩]) 2 24 Try.underlying49 waitinfo rfl (by omega) v1 CK.length (tcells CK) rfl O7.out (some ⟨gx, 0, none⟩) 1 1 (tcells [(x.1, T)]) rfl rfl X7.out.cells (tcell_oneCell _) (by simp only [maxLen]; omega) (by omega) (by have := HN0.out; have := B7.out.size; omega) ?_
              intro v2 w9 hown hgrow _ _
              have hb4 := B7.out.grown hgrow (by have := HN0.out; have := B7.out.size; omega) (own_base O7.out)
              rw [← tcells_append] at hown
              obtain ⟨A4, c4, rfl, hl4, hc4, hn4, hm4, ha4⟩ := own_readsT hown
              have HS9 := Lib.hid (HS.out _ hb4)
              rw [HN0.out] at hb4 ha4
              have B4 := Lib.hid hb4
              have C4 := Lib.hid hc4
              have A4L := Lib.hid ha4
              clear hown hgrow hb4 hc4 ha4
              refine hK.out _ _ HS9.out (fun hHeld => ?_)
              try simp only [Act.put, List.getElem_toArray, List.getElem_cons_succ, List.getElem_cons_zero, List.setIfInBounds_toArray, List.set_cons_zero, List.set_cons_succ]
              refine wpAnyH_take (i := 23) (v := .pointer (some ⟨r, 0, none⟩)) rfl (by kernel_rfl) (by kernel_rfl) (by kernel_rfl) (fun _ _ _ h => h) (Or.inl ⟨by kernel_rfl, fun w _ => by go_simp⟩) hHeld ?_
              try simp only [Act.put, List.getElem_toArray, List.getElem_cons_succ, List.getElem_cons_zero, List.setIfInBounds_toArray, List.set_cons_zero, List.set_cons_succ]
              refine wpAnyH_take (i := 24) (v := .pointer (some ⟨r, 1, none⟩)) rfl (by kernel_rfl) (by kernel_rfl) (by kernel_rfl) (fun _ _ _ h => h) (Or.inl ⟨by kernel_rfl, fun w _ => by go_simp⟩) hHeld ?_
              try simp only [Act.put, List.getElem_toArray, List.getElem_cons_succ, List.getElem_cons_zero, List.setIfInBounds_toArray, List.set_cons_zero, List.set_cons_succ]
              have RE := RD.out.keep B4.out
              obtain ⟨j1, j2⟩ := RE.head.get 1 _ rfl
              refine wpAnyH_ready (rs := [25]) (by kernel_rfl) (by simp) ?_
              refine AllReadyH.cons rfl (fun K hK => ?_) AllReadyH.nil
              go_simp
              clear j1 j2 RE
              have hok2 := crash_step_ok HOK.out keep torn cut hc (k + 1) (by omega)
              have hT2 : CK ++ [(x.1, T)] = crashC keep torn cut D C (k + 1) := by
                show _ = crashC keep torn cut D C k ++ [_]
                rw [← HCK.out, HX.out, HCNE.out, ← HSL.out, ← HT.out]
              have hfin := RD.out.gone (D' := { D with blks := crashK keep torn cut D (k + 1) }) (C' := CK ++ [(x.1, T)]) B4.out C4.out A4L.out (by rw [hl4]; exact hn4) hm4 hok2 rfl (by show (crashK keep torn cut D (k + 1)).length = (crashK keep torn cut D k).length; rw [crashK_length, crashK_length]) rfl rfl (fun y hy => by
                rcases List.mem_append.1 hy with h | h
                · exact RD.out.cok y h
                · rw [List.mem_singleton.1 h]; exact HTL.out) (by
                have hag := RD.out.agree
                have h2 := crash_agree (C := CK) HOK.out keep torn cut hc k hlt (fun a ha => hag a (by show a < (crashK keep torn cut D k).length; rw [crashK_length]; exact ha))
                rw [HX.out, HCNE.out, ← HSL.out, ← HT.out] at h2
                intro a ha
                exact h2 a (by have : a < (crashK keep torn cut D k).length := ha; rwa [crashK_length] at this)) (by rw [List.length_append, List.length_singleton]; omega)
              rw [hl4] at hfin
              have R5 : Hid (∃ Ac cc, RefIn F (w9.setCell ⟨r, 1, none⟩ (.slice A4 (CK.length + 1) c4)) r Ac cc (some ⟨b, o, none⟩) wc { D with blks := crashK keep torn cut D (k + 1) } (crashC keep torn cut D C (k + 1))) := Lib.hid ⟨_, _, by rw [← hT2]; exact hfin⟩
              have T5 := Lib.hid ((TD.out.trans (Turn.of_below B4.out)).trans (Turn.set (F := fun b => b = r) (i := 1) w9 rfl (.slice A4 (CK.length + 1) c4)))
              have far : ∀ i, (w9.setCell ⟨r, 1, none⟩ (.slice A4 (CK.length + 1) c4)).cell? ⟨q6, i, none⟩ = w9.cell? ⟨q6, i, none⟩ := fun i => World.cell?_setCell_other w9 ⟨r, 1, none⟩ ⟨q6, i, none⟩ _ (fun e => by injection e with e; have := HQR.out; omega)
              refine hK.out _ _ ⟨(far _).trans HS9.out.1, (far _).trans HS9.out.2⟩ (fun hHeld => ?_)
              try simp only [Act.put, List.getElem_toArray, List.getElem_cons_succ, List.getElem_cons_zero, List.setIfInBounds_toArray, List.set_cons_zero, List.set_cons_succ]
              clear hfin hok2 far hT2
              refine wpAnyH_done (by kernel_rfl) ?_ _
              clear hHeld
              go_wp2_with fail
              go_roundw
              case rel => exact ⟨k + 1, by omega, by go_num, R5.out, T5.out⟩
              case measure => simp [intOf]; omega
          · have hq1 : ((k : Int) == torn) = false := by simpa using htk
            obtain ⟨cn, hcn⟩ : ∃ cn : Nat, cn = 0 := ⟨_, rfl⟩
            have HCNE : Hid (cutN keep torn cut k = cn) := Lib.hid (by rw [hcn, HCN.out]; rw [if_neg htk]; rw [if_neg (by decide)])
            have hcn128 : cn ≤ 128 := by omega
            have HCV := Lib.hid hcn
            clear htk HCN
            clear hcn
            go_upto_region 12 with fail
            have hv : Value.int .i64 0 = Value.int .i64 (cn : Int) := by rw [HCV.out]; rfl
            conv in (occs := 2) (Value.int IntKind.i64 0) => rw [hv]
            clear hv
            obtain ⟨W, hW⟩ : ∃ V : World, V = w2.drew := ⟨_, rfl⟩
            have bd : Below w2.heap.size w2 W := by rw [hW]; exact (Below.refl w2.heap.size w2).drew
            have RD := Lib.hid (R2.out.keep bd)
            have TD := Lib.hid (T2.out.trans (Turn.of_below bd))
            have XD := Lib.hid (X2.out.keep bd)
            have HS : Hid (∀ w', Below W.heap.size W w' → w'.cell? ⟨q6, 0, none⟩ = some (.int .i64 (x.1 : Int)) ∧ w'.cell? ⟨q6, 1, none⟩ = some (.string ⟨x.2.toArray⟩)) := Lib.hid fun w' hb => ⟨((XD.out.keep hb).get 0 _ rfl).1, ((XD.out.keep hb).get 1 _ rfl).1⟩
            refine wp_region_held_drew (S := fun w' => w'.cell? ⟨q6, 0, none⟩ = some (.int .i64 (x.1 : Int)) ∧ w'.cell? ⟨q6, 1, none⟩ = some (.string ⟨x.2.toArray⟩)) (by kernel_rfl) (by rw [← hW]; exact HS.out _ (Below.refl _ _)) (fun hHeld => ?_)
            rw [← hW] at hHeld ⊢
            have HC1 : Hid (∀ w', Below W.heap.size W w' → w'.cell? ⟨r, 1, none⟩ = some (.slice Ac CK.length cc)) := Lib.hid fun w' hb => ((RD.out.keep hb).head.get 1 _ rfl).1
            have HCM : Hid (∀ w', Below W.heap.size W w' → Cells w' Ac (tcells CK)) := Lib.hid fun w' hb => (RD.out.keep hb).came
            have BW := Lib.hid (Below.refl W.heap.size W)
            obtain ⟨N0, hN0⟩ : ∃ N, N = W.heap.size := ⟨_, rfl⟩
            rw [← hN0] at HS HC1 HCM BW
            have HN0 := Lib.hid hN0
            obtain ⟨sl, hsl⟩ : ∃ sl, sl = standsL CK x.1 := ⟨_, rfl⟩
            have HSL := Lib.hid hsl
            have hslen : sl.length = 128 := by rw [hsl]; exact standsL_length RD.out.cok _
            obtain ⟨T, hT⟩ : ∃ T, T = x.2.take cn ++ sl.drop cn := ⟨_, rfl⟩
            have HT := Lib.hid hT
            have HTL : Hid (T.length = 128) := Lib.hid (by rw [hT, List.length_append, List.length_take, List.length_drop, HXL.out, hslen]; omega)
            have E12 : Hid (∀ w, _) := Lib.hid (fun w => cut_to w x.2 cn (by rw [HXL.out]; exact hcn128))
            have E18 : Hid (∀ w, _) := Lib.hid (fun w => cut_from w sl cn (by rw [hslen]; exact hcn128))
            have E19 : Hid (∀ w, (Op.stringOp .add ⟨(x.2.take cn).toArray⟩ ⟨(sl.drop cn).toArray⟩).run Try.prog w = .ok (.string ⟨T.toArray⟩) w) := Lib.hid (fun w => by rw [hT]; exact run_string_add_lists w _ _ (by rw [List.length_take, HXL.out]; omega) (by rw [List.length_drop, hslen]; omega))
            clear hW bd R2 T2 X2 M2 C2 g0 g1 g2 hN0 hsl hT hslen
            refine wpAnyH_take (i := 0) (v := .pointer (some ⟨r, 0, none⟩)) rfl (by kernel_rfl) (by kernel_rfl) (by kernel_rfl) (fun _ _ _ h => h) (Or.inl ⟨by kernel_rfl, fun w _ => by go_simp⟩) hHeld ?_
            try simp only [Act.put, List.getElem_toArray, List.getElem_cons_succ, List.getElem_cons_zero, List.setIfInBounds_toArray, List.set_cons_zero, List.set_cons_succ]
            refine wpAnyH_take (i := 2) (v := .pointer (some ⟨r, 0, none⟩)) rfl (by kernel_rfl) (by kernel_rfl) (by kernel_rfl) (fun _ _ _ h => h) (Or.inl ⟨by kernel_rfl, fun w _ => by go_simp⟩) hHeld ?_
            try simp only [Act.put, List.getElem_toArray, List.getElem_cons_succ, List.getElem_cons_zero, List.setIfInBounds_toArray, List.set_cons_zero, List.set_cons_succ]
            refine wpAnyH_take (i := 3) (v := .pointer (some ⟨r, 0, none⟩)) rfl (by kernel_rfl) (by kernel_rfl) (by kernel_rfl) (fun _ _ _ h => h) (Or.inl ⟨by kernel_rfl, fun w _ => by go_simp⟩) hHeld ?_
            try simp only [Act.put, List.getElem_toArray, List.getElem_cons_succ, List.getElem_cons_zero, List.setIfInBounds_toArray, List.set_cons_zero, List.set_cons_succ]
            refine wpAnyH_take (i := 4) (v := .pointer (some ⟨r, 1, none⟩)) rfl (by kernel_rfl) (by kernel_rfl) (by kernel_rfl) (fun _ _ _ h => h) (Or.inl ⟨by kernel_rfl, fun w _ => by go_simp⟩) hHeld ?_
            try simp only [Act.put, List.getElem_toArray, List.getElem_cons_succ, List.getElem_cons_zero, List.setIfInBounds_toArray, List.set_cons_zero, List.set_cons_succ]
            refine wpAnyH_take (i := 7) (v := .pointer (some ⟨q6, 0, none⟩)) rfl (by kernel_rfl) (by kernel_rfl) (by kernel_rfl) (fun _ _ _ h => h) (Or.inl ⟨by kernel_rfl, fun w _ => by go_simp⟩) hHeld ?_
            try simp only [Act.put, List.getElem_toArray, List.getElem_cons_succ, List.getElem_cons_zero, List.setIfInBounds_toArray, List.set_cons_zero, List.set_cons_succ]
            refine wpAnyH_take (i := 8) (v := .int .i64 (x.1 : Int)) rfl (by kernel_rfl) (by kernel_rfl) (by kernel_rfl) (fun _ _ _ h => h) (Or.inl ⟨by kernel_rfl, fun w h => by have hc := h.1; go_simp⟩) hHeld ?_
            try simp only [Act.put, List.getElem_toArray, List.getElem_cons_succ, List.getElem_cons_zero, List.setIfInBounds_toArray, List.set_cons_zero, List.set_cons_succ]
            refine wpAnyH_take (i := 9) (v := .pointer (some ⟨q6, 1, none⟩)) rfl (by kernel_rfl) (by kernel_rfl) (by kernel_rfl) (fun _ _ _ h => h) (Or.inl ⟨by kernel_rfl, fun w _ => by go_simp⟩) hHeld ?_
            try simp only [Act.put, List.getElem_toArray, List.getElem_cons_succ, List.getElem_cons_zero, List.setIfInBounds_toArray, List.set_cons_zero, List.set_cons_succ]
            refine wpAnyH_take (i := 10) (v := .string ⟨x.2.toArray⟩) rfl (by kernel_rfl) (by kernel_rfl) (by kernel_rfl) (fun _ _ _ h => h) (Or.inl ⟨by kernel_rfl, fun w h => by have hc := h.2; go_simp⟩) hHeld ?_
            try simp only [Act.put, List.getElem_toArray, List.getElem_cons_succ, List.getElem_cons_zero, List.setIfInBounds_toArray, List.set_cons_zero, List.set_cons_succ]
            refine wpAnyH_take (i := 11) (v := .int .i64 (cn : Int)) rfl (by kernel_rfl) (by kernel_rfl) (by kernel_rfl) (fun _ _ _ h => h) (Or.inl ⟨by kernel_rfl, fun w _ => by go_simp⟩) hHeld ?_
            try simp only [Act.put, List.getElem_toArray, List.getElem_cons_succ, List.getElem_cons_zero, List.setIfInBounds_toArray, List.set_cons_zero, List.set_cons_succ]
            refine wpAnyH_take (i := 12) (v := .string ⟨(x.2.take cn).toArray⟩) rfl (by kernel_rfl) (by kernel_rfl) (by kernel_rfl) (fun _ _ _ h => h) (Or.inl ⟨by kernel_rfl, fun w h => by have he := E12.out w; go_simp⟩) hHeld ?_
            try simp only [Act.put, List.getElem_toArray, List.getElem_cons_succ, List.getElem_cons_zero, List.setIfInBounds_toArray, List.set_cons_zero, List.set_cons_succ]
            refine wpAnyH_take (i := 13) (v := .pointer (some ⟨r, 0, none⟩)) rfl (by kernel_rfl) (by kernel_rfl) (by kernel_rfl) (fun _ _ _ h => h) (Or.inl ⟨by kernel_rfl, fun w _ => by go_simp⟩) hHeld ?_
            try simp only [Act.put, List.getElem_toArray, List.getElem_cons_succ, List.getElem_cons_zero, List.setIfInBounds_toArray, List.set_cons_zero, List.set_cons_succ]
            refine wpAnyH_take (i := 14) (v := .pointer (some ⟨q6, 0, none⟩)) rfl (by kernel_rfl) (by kernel_rfl) (by kernel_rfl) (fun _ _ _ h => h) (Or.inl ⟨by kernel_rfl, fun w _ => by go_simp⟩) hHeld ?_
            try simp only [Act.put, List.getElem_toArray, List.getElem_cons_succ, List.getElem_cons_zero, List.setIfInBounds_toArray, List.set_cons_zero, List.set_cons_succ]
            refine wpAnyH_take (i := 15) (v := .int .i64 (x.1 : Int)) rfl (by kernel_rfl) (by kernel_rfl) (by kernel_rfl) (fun _ _ _ h => h) (Or.inl ⟨by kernel_rfl, fun w h => by have hc := h.1; go_simp⟩) hHeld ?_
            try simp only [Act.put, List.getElem_toArray, List.getElem_cons_succ, List.getElem_cons_zero, List.setIfInBounds_toArray, List.set_cons_zero, List.set_cons_succ]
            refine wpAnyH_take (i := 17) (v := .int .i64 (cn : Int)) rfl (by kernel_rfl) (by kernel_rfl) (by kernel_rfl) (fun _ _ _ h => h) (Or.inl ⟨by kernel_rfl, fun w _ => by go_simp⟩) hHeld ?_
            try simp only [Act.put, List.getElem_toArray, List.getElem_cons_succ, List.getElem_cons_zero, List.setIfInBounds_toArray, List.set_cons_zero, List.set_cons_succ]
            refine wpAnyH_ready (rs := [1, 5]) (by kernel_rfl) (by simp) ?_
            refine AllReadyH.cons rfl (fun K hK => ?_) (AllReadyH.cons rfl (fun K hK => ?_) AllReadyH.nil)
            · go_simp
              have ba : Below W.heap.size W (W.alloc (.cells #[] 97)) := (Below.refl _ W).alloc (Nat.le_refl _) _
              have Ew3 := Lib.hid (own_empty_at W N0 (by have := HN0.out; have := BW.out.size; omega))
              have Bw3 := Lib.hid (BW.out.trans (ba.mono (by have := HN0.out; have := BW.out.size; omega)))
              obtain ⟨g0, hg0⟩ : ∃ y, y = W.heap.size := ⟨_, rfl⟩
              obtain ⟨w3, hw⟩ : ∃ V : World, V = W.alloc (.cells #[] 97) := ⟨_, rfl⟩
              rw [← hw] at Ew3 Bw3 ⊢
              rw [← hg0] at Ew3 ⊢
              clear hw ba hg0
              refine hK.out _ _ (HS.out _ Bw3.out) (fun hHeld => ?_)
              try simp only [Act.put, List.getElem_toArray, List.getElem_cons_succ, List.getElem_cons_zero, List.setIfInBounds_toArray, List.set_cons_zero, List.set_cons_succ]
              refine wpAnyH_ready (rs := [5]) (by kernel_rfl) (by simp) ?_
              refine AllReadyH.cons rfl (fun K hK => ?_) AllReadyH.nil
              have hcc := HC1.out _ Bw3.out
              go_simp
              clear hcc
              refine hK.out _ _ hHeld (fun hHeld => ?_)
              try simp only [Act.put, List.getElem_toArray, List.getElem_cons_succ, List.getElem_cons_zero, List.setIfInBounds_toArray, List.set_cons_zero, List.set_cons_succ]
              refine wpAnyH_ready (rs := [6]) (by kernel_rfl) (by simp) ?_
              refine AllReadyH.cons rfl (fun K hK => ?_) AllReadyH.nil
              rw [if_pos (show Region.wanted _ _ = true by kernel_rfl)]
              refine wp_appendC (.tmp 51) (.tmp 55) 49 rfl N0 97 (.agg #[.int .i64 0, .string ⟨#[]⟩]) 2 24 Try.underlying49 waitinfo rfl (by omega) (.slice (some ⟨g0, 0, none⟩) 0 0) 0 (tcells []) rfl Ew3.out Ac CK.length cc (tcells CK) rfl (tcells_length _) (HCM.out _ Bw3.out) (tcell_oneCell _) (by simp only [maxLen]; omega) (by omega) (by have := HN0.out; have := Bw3.out.size; omega) ?_
              intro v1 w5 hown hgrow _ _
              rw [show tcells [] ++ tcells CK = tcells CK from rfl] at hown
              try rw [Nat.zero_add] at hown
              have Bw5 := Lib.hid (Bw3.out.grown hgrow (by have := HN0.out; have := Bw3.out.size; omega) (own_base Ew3.out))
              have Ow5 := Lib.hid hown
              clear hown hgrow
              refine hK.out _ _ (HS.out _ Bw5.out) (fun hHeld => ?_)
              try simp only [Act.put, List.getElem_toArray, List.getElem_cons_succ, List.getElem_cons_zero, List.setIfInBounds_toArray, List.set_cons_zero, List.set_cons_succ]
              refine wpAnyH_ready (rs := [16]) (by kernel_rfl) (by simp) ?_
              refine AllReadyH.cons rfl (fun K hK => ?_) AllReadyH.nil
              go_simp
              go_at_call 44
              have hst := stands_any _ (show RefAt F w5 r _ CK from ⟨_, _, _, _, RD.out.keep (by have := Bw5.out; rwa [HN0.out] at this)⟩) x.1
              rw [← HSL.out] at hst
              refine hst.mono ?_
              rintro e w6 ⟨rfl, hb6⟩
              have B6 := Lib.hid (Bw5.out.trans (hb6.mono (by have := HN0.out; have := Bw5.out.size; omega)))
              have O6 := Lib.hid (own_keep Ow5.out hb6)
              clear hb6
              refine hK.out _ _ (HS.out _ B6.out) (fun hHeld => ?_)
              try simp only [Act.put, List.getElem_toArray, List.getElem_cons_succ, List.getElem_cons_zero, List.setIfInBounds_toArray, List.set_cons_zero, List.set_cons_succ]
              refine wpAnyH_take (i := 18) (v := .string ⟨(sl.drop cn).toArray⟩) rfl (by kernel_rfl) (by kernel_rfl) (by kernel_rfl) (fun _ _ _ h => h) (Or.inl ⟨by kernel_rfl, fun w h => by have he := E18.out w; go_simp⟩) hHeld ?_
              try simp only [Act.put, List.getElem_toArray, List.getElem_cons_succ, List.getElem_cons_zero, List.setIfInBounds_toArray, List.set_cons_zero, List.set_cons_succ]
              refine wpAnyH_take (i := 19) (v := .string ⟨T.toArray⟩) rfl (by kernel_rfl) (by kernel_rfl) (by kernel_rfl) (fun _ _ _ h => h) (Or.inl ⟨by kernel_rfl, fun w h => by have he := E19.out w; go_simp⟩) hHeld ?_
              try simp only [Act.put, List.getElem_toArray, List.getElem_cons_succ, List.getElem_cons_zero, List.setIfInBounds_toArray, List.set_cons_zero, List.set_cons_succ]
              refine wpAnyH_take (i := 20) (v := .agg #[.int .i64 (x.1 : Int), .string ⟨T.toArray⟩]) rfl (by kernel_rfl) (by kernel_rfl) (by kernel_rfl) (fun _ _ _ h => h) (Or.inl ⟨by kernel_rfl, fun w _ => by go_simp⟩) hHeld ?_
              try simp only [Act.put, List.getElem_toArray, List.getElem_cons_succ, List.getElem_cons_zero, List.setIfInBounds_toArray, List.set_cons_zero, List.set_cons_succ]
              refine wpAnyH_ready (rs := [21]) (by kernel_rfl) (by simp) ?_
              refine AllReadyH.cons rfl (fun K hK => ?_) AllReadyH.nil
              go_simp
              have ba : Below w6.heap.size w6 (w6.alloc (.cells #[.int .i64 (x.1 : Int), .string ⟨T.toArray⟩] 97)) := (Below.refl _ w6).alloc (Nat.le_refl _) _
              have X7 := Lib.hid (MemC.new w6 (tcells [(x.1, T)]) 97)
              have B7 := Lib.hid (B6.out.trans (ba.mono (by have := HN0.out; have := B6.out.size; omega)))
              have O7 := Lib.hid (O6.out.alloc (.cells #[.int .i64 (x.1 : Int), .string ⟨T.toArray⟩] 97))
              obtain ⟨gx, hgx⟩ : ∃ y, y = w6.heap.size := ⟨_, rfl⟩
              obtain ⟨w7, hw⟩ : ∃ V : World, V = w6.alloc (.cells #[.int .i64 (x.1 : Int), .string ⟨T.toArray⟩] 97) := ⟨_, rfl⟩
              rw [show (w6.alloc (.cells (tcells [(x.1, T)]).toArray 97)) = w7 by rw [hw]; rfl] at X7
              rw [← hw] at B7 O7 ⊢
              rw [← hgx] at X7 ⊢
              clear hw ba hgx
              refine hK.out _ _ (HS.out _ B7.out) (fun hHeld => ?_)
              try simp only [Act.put, List.getElem_toArray, List.getElem_cons_succ, List.getElem_cons_zero, List.setIfInBounds_toArray, List.set_cons_zero, List.set_cons_succ]
              refine wpAnyH_ready (rs := [22]) (by kernel_rfl) (by simp) ?_
              refine AllReadyH.cons rfl (fun K hK => ?_) AllReadyH.nil
              rw [if_pos (show Region.wanted _ _ = true by kernel_rfl)]
              refine wp_appendC (.tmp 56) (.tmp 71) 49 rfl N0 97 (.agg #[.int .i64 0, .string ⟨#[]⟩]) 2 24 Try.underlying49 waitinfo rfl (by omega) v1 CK.length (tcells CK) rfl O7.out (some ⟨gx, 0, none⟩) 1 1 (tcells [(x.1, T)]) rfl rfl X7.out.cells (tcell_oneCell _) (by simp only [maxLen]; omega) (by omega) (by have := HN0.out; have := B7.out.size; omega) ?_
              intro v2 w9 hown hgrow _ _
              have hb4 := B7.out.grown hgrow (by have := HN0.out; have := B7.out.size; omega) (own_base O7.out)
              rw [← tcells_append] at hown
              obtain ⟨A4, c4, rfl, hl4, hc4, hn4, hm4, ha4⟩ := own_readsT hown
              have HS9 := Lib.hid (HS.out _ hb4)
              rw [HN0.out] at hb4 ha4
              have B4 := Lib.hid hb4
              have C4 := Lib.hid hc4
              have A4L := Lib.hid ha4
              clear hown hgrow hb4 hc4 ha4
              refine hK.out _ _ HS9.out (fun hHeld => ?_)
              try simp only [Act.put, List.getElem_toArray, List.getElem_cons_succ, List.getElem_cons_zero, List.setIfInBounds_toArray, List.set_cons_zero, List.set_cons_succ]
              refine wpAnyH_take (i := 23) (v := .pointer (some ⟨r, 0, none⟩)) rfl (by kernel_rfl) (by kernel_rfl) (by kernel_rfl) (fun _ _ _ h => h) (Or.inl ⟨by kernel_rfl, fun w _ => by go_simp⟩) hHeld ?_
              try simp only [Act.put, List.getElem_toArray, List.getElem_cons_succ, List.getElem_cons_zero, List.setIfInBounds_toArray, List.set_cons_zero, List.set_cons_succ]
              refine wpAnyH_take (i := 24) (v := .pointer (some ⟨r, 1, none⟩)) rfl (by kernel_rfl) (by kernel_rfl) (by kernel_rfl) (fun _ _ _ h => h) (Or.inl ⟨by kernel_rfl, fun w _ => by go_simp⟩) hHeld ?_
              try simp only [Act.put, List.getElem_toArray, List.getElem_cons_succ, List.getElem_cons_zero, List.setIfInBounds_toArray, List.set_cons_zero, List.set_cons_succ]
              have RE := RD.out.keep B4.out
              obtain ⟨j1, j2⟩ := RE.head.get 1 _ rfl
              refine wpAnyH_ready (rs := [25]) (by kernel_rfl) (by simp) ?_
              refine AllReadyH.cons rfl (fun K hK => ?_) AllReadyH.nil
              go_simp
              clear j1 j2 RE
              have hok2 := crash_step_ok HOK.out keep torn cut hc (k + 1) (by omega)
              have hT2 : CK ++ [(x.1, T)] = crashC keep torn cut D C (k + 1) := by
                show _ = crashC keep torn cut D C k ++ [_]
                rw [← HCK.out, HX.out, HCNE.out, ← HSL.out, ← HT.out]
              have hfin := RD.out.gone (D' := { D with blks := crashK keep torn cut D (k + 1) }) (C' := CK ++ [(x.1, T)]) B4.out C4.out A4L.out (by rw [hl4]; exact hn4) hm4 hok2 rfl (by show (crashK keep torn cut D (k + 1)).length = (crashK keep torn cut D k).length; rw [crashK_length, crashK_length]) rfl rfl (fun y hy => by
                rcases List.mem_append.1 hy with h | h
                · exact RD.out.cok y h
                · rw [List.mem_singleton.1 h]; exact HTL.out) (by
                have hag := RD.out.agree
                have h2 := crash_agree (C := CK) HOK.out keep torn cut hc k hlt (fun a ha => hag a (by show a < (crashK keep torn cut D k).length; rw [crashK_length]; exact ha))
                rw [HX.out, HCNE.out, ← HSL.out, ← HT.out] at h2
                intro a ha
                exact h2 a (by have : a < (crashK keep torn cut D k).length := ha; rwa [crashK_length] at this)) (by rw [List.length_append, List.length_singleton]; omega)
              rw [hl4] at hfin
              have R5 : Hid (∃ Ac cc, RefIn F (w9.setCell ⟨r, 1, none⟩ (.slice A4 (CK.length + 1) c4)) r Ac cc (some ⟨b, o, none⟩) wc { D with blks := crashK keep torn cut D (k + 1) } (crashC keep torn cut D C (k + 1))) := Lib.hid ⟨_, _, by rw [← hT2]; exact hfin⟩
              have T5 := Lib.hid ((TD.out.trans (Turn.of_below B4.out)).trans (Turn.set (F := fun b => b = r) (i := 1) w9 rfl (.slice A4 (CK.length + 1) c4)))
              have far : ∀ i, (w9.setCell ⟨r, 1, none⟩ (.slice A4 (CK.length + 1) c4)).cell? ⟨q6, i, none⟩ = w9.cell? ⟨q6, i, none⟩ := fun i => World.cell?_setCell_other w9 ⟨r, 1, none⟩ ⟨q6, i, none⟩ _ (fun e => by injection e with e; have := HQR.out; omega)
              refine hK.out _ _ ⟨(far _).trans HS9.out.1, (far _).trans HS9.out.2⟩ (fun hHeld => ?_)
              try simp only [Act.put, List.getElem_toArray, List.getElem_cons_succ, List.getElem_cons_zero, List.setIfInBounds_toArray, List.set_cons_zero, List.set_cons_succ]
              clear hfin hok2 far hT2
              refine wpAnyH_done (by kernel_rfl) ?_ _
              clear hHeld
              go_wp2_with fail
              go_roundw
              case rel => exact ⟨k + 1, by omega, by go_num, R5.out, T5.out⟩
              case measure => simp [intOf]; omega
            · have hcc := HC1.out _ BW.out
              go_simp
              clear hcc
              refine hK.out _ _ hHeld (fun hHeld => ?_)
              try simp only [Act.put, List.getElem_toArray, List.getElem_cons_succ, List.getElem_cons_zero, List.setIfInBounds_toArray, List.set_cons_zero, List.set_cons_succ]
              refine wpAnyH_ready (rs := [1]) (by kernel_rfl) (by simp) ?_
              refine AllReadyH.cons rfl (fun K hK => ?_) AllReadyH.nil
              go_simp
              have ba : Below W.heap.size W (W.alloc (.cells #[] 97)) := (Below.refl _ W).alloc (Nat.le_refl _) _
              have Ew4 := Lib.hid (own_empty_at W N0 (by have := HN0.out; have := BW.out.size; omega))
              have Bw4 := Lib.hid (BW.out.trans (ba.mono (by have := HN0.out; have := BW.out.size; omega)))
              obtain ⟨g0, hg0⟩ : ∃ y, y = W.heap.size := ⟨_, rfl⟩
              obtain ⟨w4, hw⟩ : ∃ V : World, V = W.alloc (.cells #[] 97) := ⟨_, rfl⟩
              rw [← hw] at Ew4 Bw4 ⊢
              rw [← hg0] at Ew4 ⊢
              clear hw ba hg0
              refine hK.out _ _ (HS.out _ Bw4.out) (fun hHeld => ?_)
              try simp only [Act.put, List.getElem_toArray, List.getElem_cons_succ, List.getElem_cons_zero, List.setIfInBounds_toArray, List.set_cons_zero, List.set_cons_succ]
              refine wpAnyH_ready (rs := [6]) (by kernel_rfl) (by simp) ?_
              refine AllReadyH.cons rfl (fun K hK => ?_) AllReadyH.nil
              rw [if_pos (show Region.wanted _ _ = true by kernel_rfl)]
              refine wp_appendC (.tmp 51) (.tmp 55) 49 rfl N0 97 (.agg #[.int .i64 0, .string ⟨#[]⟩]) 2 24 Try.underlying49 waitinfo rfl (by omega) (.slice (some ⟨g0, 0, none⟩) 0 0) 0 (tcells []) rfl Ew4.out Ac CK.length cc (tcells CK) rfl (tcells_length _) (HCM.out _ Bw4.out) (tcell_oneCell _) (by simp only [maxLen]; omega) (by omega) (by have := HN0.out; have := Bw4.out.size; omega) ?_
              intro v1 w5 hown hgrow _ _
              rw [show tcells [] ++ tcells CK = tcells CK from rfl] at hown
              try rw [Nat.zero_add] at hown
              have Bw5 := Lib.hid (Bw4.out.grown hgrow (by have := HN0.out; have := Bw4.out.size; omega) (own_base Ew4.out))
              have Ow5 := Lib.hid hown
              clear hown hgrow
              refine hK.out _ _ (HS.out _ Bw5.out) (fun hHeld => ?_)
              try simp only [Act.put, List.getElem_toArray, List.getElem_cons_succ, List.getElem_cons_zero, List.setIfInBounds_toArray, List.set_cons_zero, List.set_cons_succ]
              refine wpAnyH_ready (rs := [16]) (by kernel_rfl) (by simp) ?_
              refine AllReadyH.cons rfl (fun K hK => ?_) AllReadyH.nil
              go_simp
              go_at_call 44
              have hst := stands_any _ (show RefAt F w5 r _ CK from ⟨_, _, _, _, RD.out.keep (by have := Bw5.out; rwa [HN0.out] at this)⟩) x.1
              rw [← HSL.out] at hst
              refine hst.mono ?_
              rintro e w6 ⟨rfl, hb6⟩
              have B6 := Lib.hid (Bw5.out.trans (hb6.mono (by have := HN0.out; have := Bw5.out.size; omega)))
              have O6 := Lib.hid (own_keep Ow5.out hb6)
              clear hb6
              refine hK.out _ _ (HS.out _ B6.out) (fun hHeld => ?_)
              try simp only [Act.put, List.getElem_toArray, List.getElem_cons_succ, List.getElem_cons_zero, List.setIfInBounds_toArray, List.set_cons_zero, List.set_cons_succ]
              refine wpAnyH_take (i := 18) (v := .string ⟨(sl.drop cn).toArray⟩) rfl (by kernel_rfl) (by kernel_rfl) (by kernel_rfl) (fun _ _ _ h => h) (Or.inl ⟨by kernel_rfl, fun w h => by have he := E18.out w; go_simp⟩) hHeld ?_
              try simp only [Act.put, List.getElem_toArray, List.getElem_cons_succ, List.getElem_cons_zero, List.setIfInBounds_toArray, List.set_cons_zero, List.set_cons_succ]
              refine wpAnyH_take (i := 19) (v := .string ⟨T.toArray⟩) rfl (by kernel_rfl) (by kernel_rfl) (by kernel_rfl) (fun _ _ _ h => h) (Or.inl ⟨by kernel_rfl, fun w h => by have he := E19.out w; go_simp⟩) hHeld ?_
              try simp only [Act.put, List.getElem_toArray, List.getElem_cons_succ, List.getElem_cons_zero, List.setIfInBounds_toArray, List.set_cons_zero, List.set_cons_succ]
              refine wpAnyH_take (i := 20) (v := .agg #[.int .i64 (x.1 : Int), .string ⟨T.toArray⟩]) rfl (by kernel_rfl) (by kernel_rfl) (by kernel_rfl) (fun _ _ _ h => h) (Or.inl ⟨by kernel_rfl, fun w _ => by go_simp⟩) hHeld ?_
              try simp only [Act.put, List.getElem_toArray, List.getElem_cons_succ, List.getElem_cons_zero, List.setIfInBounds_toArray, List.set_cons_zero, List.set_cons_succ]
              refine wpAnyH_ready (rs := [21]) (by kernel_rfl) (by simp) ?_
              refine AllReadyH.cons rfl (fun K hK => ?_) AllReadyH.nil
              go_simp
              have ba : Below w6.heap.size w6 (w6.alloc (.cells #[.int .i64 (x.1 : Int), .string ⟨T.toArray⟩] 97)) := (Below.refl _ w6).alloc (Nat.le_refl _) _
              have X7 := Lib.hid (MemC.new w6 (tcells [(x.1, T)]) 97)
              have B7 := Lib.hid (B6.out.trans (ba.mono (by have := HN0.out; have := B6.out.size; omega)))
              have O7 := Lib.hid (O6.out.alloc (.cells #[.int .i64 (x.1 : Int), .string ⟨T.toArray⟩] 97))
              obtain ⟨gx, hgx⟩ : ∃ y, y = w6.heap.size := ⟨_, rfl⟩
              obtain ⟨w7, hw⟩ : ∃ V : World, V = w6.alloc (.cells #[.int .i64 (x.1 : Int), .string ⟨T.toArray⟩] 97) := ⟨_, rfl⟩
              rw [show (w6.alloc (.cells (tcells [(x.1, T)]).toArray 97)) = w7 by rw [hw]; rfl] at X7
              rw [← hw] at B7 O7 ⊢
              rw [← hgx] at X7 ⊢
              clear hw ba hgx
              refine hK.out _ _ (HS.out _ B7.out) (fun hHeld => ?_)
              try simp only [Act.put, List.getElem_toArray, List.getElem_cons_succ, List.getElem_cons_zero, List.setIfInBounds_toArray, List.set_cons_zero, List.set_cons_succ]
              refine wpAnyH_ready (rs := [22]) (by kernel_rfl) (by simp) ?_
              refine AllReadyH.cons rfl (fun K hK => ?_) AllReadyH.nil
              rw [if_pos (show Region.wanted _ _ = true by kernel_rfl)]
              refine wp_appendC (.tmp 56) (.tmp 71) 49 rfl N0 97 (.agg #[.int .i64 0, .string ⟨#[]⟩]) 2 24 Try.underlying49 waitinfo rfl (by omega) v1 CK.length (tcells CK) rfl O7.out (some ⟨gx, 0, none⟩) 1 1 (tcells [(x.1, T)]) rfl rfl X7.out.cells (tcell_oneCell _) (by simp only [maxLen]; omega) (by omega) (by have := HN0.out; have := B7.out.size; omega) ?_
              intro v2 w9 hown hgrow _ _
              have hb4 := B7.out.grown hgrow (by have := HN0.out; have := B7.out.size; omega) (own_base O7.out)
              rw [← tcells_append] at hown
              obtain ⟨A4, c4, rfl, hl4, hc4, hn4, hm4, ha4⟩ := own_readsT hown
              have HS9 := Lib.hid (HS.out _ hb4)
              rw [HN0.out] at hb4 ha4
              have B4 := Lib.hid hb4
              have C4 := Lib.hid hc4
              have A4L := Lib.hid ha4
              clear hown hgrow hb4 hc4 ha4
              refine hK.out _ _ HS9.out (fun hHeld => ?_)
              try simp only [Act.put, List.getElem_toArray, List.getElem_cons_succ, List.getElem_cons_zero, List.setIfInBounds_toArray, List.set_cons_zero, List.set_cons_succ]
              refine wpAnyH_take (i := 23) (v := .pointer (some ⟨r, 0, none⟩)) rfl (by kernel_rfl) (by kernel_rfl) (by kernel_rfl) (fun _ _ _ h => h) (Or.inl ⟨by kernel_rfl, fun w _ => by go_simp⟩) hHeld ?_
              try simp only [Act.put, List.getElem_toArray, List.getElem_cons_succ, List.getElem_cons_zero, List.setIfInBounds_toArray, List.set_cons_zero, List.set_cons_succ]
              refine wpAnyH_take (i := 24) (v := .pointer (some ⟨r, 1, none⟩)) rfl (by kernel_rfl) (by kernel_rfl) (by kernel_rfl) (fun _ _ _ h => h) (Or.inl ⟨by kernel_rfl, fun w _ => by go_simp⟩) hHeld ?_
              try simp only [Act.put, List.getElem_toArray, List.getElem_cons_succ, List.getElem_cons_zero, List.setIfInBounds_toArray, List.set_cons_zero, List.set_cons_succ]
              have RE := RD.out.keep B4.out
              obtain ⟨j1, j2⟩ := RE.head.get 1 _ rfl
              refine wpAnyH_ready (rs := [25]) (by kernel_rfl) (by simp) ?_
              refine AllReadyH.cons rfl (fun K hK => ?_) AllReadyH.nil
              go_simp
              clear j1 j2 RE
              have hok2 := crash_step_ok HOK.out keep torn cut hc (k + 1) (by omega)
              have hT2 : CK ++ [(x.1, T)] = crashC keep torn cut D C (k + 1) := by
                show _ = crashC keep torn cut D C k ++ [_]
                rw [← HCK.out, HX.out, HCNE.out, ← HSL.out, ← HT.out]
              have hfin := RD.out.gone (D' := { D with blks := crashK keep torn cut D (k + 1) }) (C' := CK ++ [(x.1, T)]) B4.out C4.out A4L.out (by rw [hl4]; exact hn4) hm4 hok2 rfl (by show (crashK keep torn cut D (k + 1)).length = (crashK keep torn cut D k).length; rw [crashK_length, crashK_length]) rfl rfl (fun y hy => by
                rcases List.mem_append.1 hy with h | h
                · exact RD.out.cok y h
                · rw [List.mem_singleton.1 h]; exact HTL.out) (by
                have hag := RD.out.agree
                have h2 := crash_agree (C := CK) HOK.out keep torn cut hc k hlt (fun a ha => hag a (by show a < (crashK keep torn cut D k).length; rw [crashK_length]; exact ha))
                rw [HX.out, HCNE.out, ← HSL.out, ← HT.out] at h2
                intro a ha
                exact h2 a (by have : a < (crashK keep torn cut D k).length := ha; rwa [crashK_length] at this)) (by rw [List.length_append, List.length_singleton]; omega)
              rw [hl4] at hfin
              have R5 : Hid (∃ Ac cc, RefIn F (w9.setCell ⟨r, 1, none⟩ (.slice A4 (CK.length + 1) c4)) r Ac cc (some ⟨b, o, none⟩) wc { D with blks := crashK keep torn cut D (k + 1) } (crashC keep torn cut D C (k + 1))) := Lib.hid ⟨_, _, by rw [← hT2]; exact hfin⟩
              have T5 := Lib.hid ((TD.out.trans (Turn.of_below B4.out)).trans (Turn.set (F := fun b => b = r) (i := 1) w9 rfl (.slice A4 (CK.length + 1) c4)))
              have far : ∀ i, (w9.setCell ⟨r, 1, none⟩ (.slice A4 (CK.length + 1) c4)).cell? ⟨q6, i, none⟩ = w9.cell? ⟨q6, i, none⟩ := fun i => World.cell?_setCell_other w9 ⟨r, 1, none⟩ ⟨q6, i, none⟩ _ (fun e => by injection e with e; have := HQR.out; omega)
              refine hK.out _ _ ⟨(far _).trans HS9.out.1, (far _).trans HS9.out.2⟩ (fun hHeld => ?_)
              try simp only [Act.put, List.getElem_toArray, List.getElem_cons_succ, List.getElem_cons_zero, List.setIfInBounds_toArray, List.set_cons_zero, List.set_cons_succ]
              clear hfin hok2 far hT2
              refine wpAnyH_done (by kernel_rfl) ?_ _
              clear hHeld
              go_wp2_with fail
              go_roundw
              case rel => exact ⟨k + 1, by omega, by go_num, R5.out, T5.out⟩
              case measure => simp [intOf]; omega
        · by_cases htk : (k : Int) = torn
          · have hq1 : ((k : Int) == torn) = true := by rw [htk]; simp
            obtain ⟨cn, hcn⟩ : ∃ cn : Nat, cn = cut := ⟨_, rfl⟩
            have HCNE : Hid (cutN keep torn cut k = cn) := Lib.hid (by rw [hcn, HCN.out]; rw [if_pos htk])
            have hcn128 : cn ≤ 128 := by omega
            have HCV := Lib.hid hcn
            clear htk HCN
            rw [← hcn] at g2
            clear hcn
            go_upto_region 12 with fail
            obtain ⟨W, hW⟩ : ∃ V : World, V = w2.drew := ⟨_, rfl⟩
            have bd : Below w2.heap.size w2 W := by rw [hW]; exact (Below.refl w2.heap.size w2).drew
            have RD := Lib.hid (R2.out.keep bd)
            have TD := Lib.hid (T2.out.trans (Turn.of_below bd))
            have XD := Lib.hid (X2.out.keep bd)
            have HS : Hid (∀ w', Below W.heap.size W w' → w'.cell? ⟨q6, 0, none⟩ = some (.int .i64 (x.1 : Int)) ∧ w'.cell? ⟨q6, 1, none⟩ = some (.string ⟨x.2.toArray⟩)) := Lib.hid fun w' hb => ⟨((XD.out.keep hb).get 0 _ rfl).1, ((XD.out.keep hb).get 1 _ rfl).1⟩
            refine wp_region_held_drew (S := fun w' => w'.cell? ⟨q6, 0, none⟩ = some (.int .i64 (x.1 : Int)) ∧ w'.cell? ⟨q6, 1, none⟩ = some (.string ⟨x.2.toArray⟩)) (by kernel_rfl) (by rw [← hW]; exact HS.out _ (Below.refl _ _)) (fun hHeld => ?_)
            rw [← hW] at hHeld ⊢
            have HC1 : Hid (∀ w', Below W.heap.size W w' → w'.cell? ⟨r, 1, none⟩ = some (.slice Ac CK.length cc)) := Lib.hid fun w' hb => ((RD.out.keep hb).head.get 1 _ rfl).1
            have HCM : Hid (∀ w', Below W.heap.size W w' → Cells w' Ac (tcells CK)) := Lib.hid fun w' hb => (RD.out.keep hb).came
            have BW := Lib.hid (Below.refl W.heap.size W)
            obtain ⟨N0, hN0⟩ : ∃ N, N = W.heap.size := ⟨_, rfl⟩
            rw [← hN0] at HS HC1 HCM BW
            have HN0 := Lib.hid hN0
            obtain ⟨sl, hsl⟩ : ∃ sl, sl = standsL CK x.1 := ⟨_, rfl⟩
            have HSL := Lib.hid hsl
            have hslen : sl.length = 128 := by rw [hsl]; exact standsL_length RD.out.cok _
            obtain ⟨T, hT⟩ : ∃ T, T = x.2.take cn ++ sl.drop cn := ⟨_, rfl⟩
            have HT := Lib.hid hT
            have HTL : Hid (T.length = 128) := Lib.hid (by rw [hT, List.length_append, List.length_take, List.length_drop, HXL.out, hslen]; omega)
            have E12 : Hid (∀ w, _) := Lib.hid (fun w => cut_to w x.2 cn (by rw [HXL.out]; exact hcn128))
            have E18 : Hid (∀ w, _) := Lib.hid (fun w => cut_from w sl cn (by rw [hslen]; exact hcn128))
            have E19 : Hid (∀ w, (Op.stringOp .add ⟨(x.2.take cn).toArray⟩ ⟨(sl.drop cn).toArray⟩).run Try.prog w = .ok (.string ⟨T.toArray⟩) w) := Lib.hid (fun w => by rw [hT]; exact run_string_add_lists w _ _ (by rw [List.length_take, HXL.out]; omega) (by rw [List.length_drop, hslen]; omega))
            clear hW bd R2 T2 X2 M2 C2 g0 g1 g2 hN0 hsl hT hslen
            refine wpAnyH_take (i := 0) (v := .pointer (some ⟨r, 0, none⟩)) rfl (by kernel_rfl) (by kernel_rfl) (by kernel_rfl) (fun _ _ _ h => h) (Or.inl ⟨by kernel_rfl, fun w _ => by go_simp⟩) hHeld ?_
            try simp only [Act.put, List.getElem_toArray, List.getElem_cons_succ, List.getElem_cons_zero, List.setIfInBounds_toArray, List.set_cons_zero, List.set_cons_succ]
            refine wpAnyH_take (i := 2) (v := .pointer (some ⟨r, 0, none⟩)) rfl (by kernel_rfl) (by kernel_rfl) (by kernel_rfl) (fun _ _ _ h => h) (Or.inl ⟨by kernel_rfl, fun w _ => by go_simp⟩) hHeld ?_
            try simp only [Act.put, List.getElem_toArray, List.getElem_cons_succ, List.getElem_cons_zero, List.setIfInBounds_toArray, List.set_cons_zero, List.set_cons_succ]
            refine wpAnyH_take (i := 3) (v := .pointer (some ⟨r, 0, none⟩)) rfl (by kernel_rfl) (by kernel_rfl) (by kernel_rfl) (fun _ _ _ h => h) (Or.inl ⟨by kernel_rfl, fun w _ => by go_simp⟩) hHeld ?_
            try simp only [Act.put, List.getElem_toArray, List.getElem_cons_succ, List.getElem_cons_zero, List.setIfInBounds_toArray, List.set_cons_zero, List.set_cons_succ]
            refine wpAnyH_take (i := 4) (v := .pointer (some ⟨r, 1, none⟩)) rfl (by kernel_rfl) (by kernel_rfl) (by kernel_rfl) (fun _ _ _ h => h) (Or.inl ⟨by kernel_rfl, fun w _ => by go_simp⟩) hHeld ?_
            try simp only [Act.put, List.getElem_toArray, List.getElem_cons_succ, List.getElem_cons_zero, List.setIfInBounds_toArray, List.set_cons_zero, List.set_cons_succ]
            refine wpAnyH_take (i := 7) (v := .pointer (some ⟨q6, 0, none⟩)) rfl (by kernel_rfl) (by kernel_rfl) (by kernel_rfl) (fun _ _ _ h => h) (Or.inl ⟨by kernel_rfl, fun w _ => by go_simp⟩) hHeld ?_
            try simp only [Act.put, List.getElem_toArray, List.getElem_cons_succ, List.getElem_cons_zero, List.setIfInBounds_toArray, List.set_cons_zero, List.set_cons_succ]
            refine wpAnyH_take (i := 8) (v := .int .i64 (x.1 : Int)) rfl (by kernel_rfl) (by kernel_rfl) (by kernel_rfl) (fun _ _ _ h => h) (Or.inl ⟨by kernel_rfl, fun w h => by have hc := h.1; go_simp⟩) hHeld ?_
            try simp only [Act.put, List.getElem_toArray, List.getElem_cons_succ, List.getElem_cons_zero, List.setIfInBounds_toArray, List.set_cons_zero, List.set_cons_succ]
            refine wpAnyH_take (i := 9) (v := .pointer (some ⟨q6, 1, none⟩)) rfl (by kernel_rfl) (by kernel_rfl) (by kernel_rfl) (fun _ _ _ h => h) (Or.inl ⟨by kernel_rfl, fun w _ => by go_simp⟩) hHeld ?_
            try simp only [Act.put, List.getElem_toArray, List.getElem_cons_succ, List.getElem_cons_zero, List.setIfInBounds_toArray, List.set_cons_zero, List.set_cons_succ]
            refine wpAnyH_take (i := 10) (v := .string ⟨x.2.toArray⟩) rfl (by kernel_rfl) (by kernel_rfl) (by kernel_rfl) (fun _ _ _ h => h) (Or.inl ⟨by kernel_rfl, fun w h => by have hc := h.2; go_simp⟩) hHeld ?_
            try simp only [Act.put, List.getElem_toArray, List.getElem_cons_succ, List.getElem_cons_zero, List.setIfInBounds_toArray, List.set_cons_zero, List.set_cons_succ]
            refine wpAnyH_take (i := 11) (v := .int .i64 (cn : Int)) rfl (by kernel_rfl) (by kernel_rfl) (by kernel_rfl) (fun _ _ _ h => h) (Or.inl ⟨by kernel_rfl, fun w _ => by go_simp⟩) hHeld ?_
            try simp only [Act.put, List.getElem_toArray, List.getElem_cons_succ, List.getElem_cons_zero, List.setIfInBounds_toArray, List.set_cons_zero, List.set_cons_succ]
            refine wpAnyH_take (i := 12) (v := .string ⟨(x.2.take cn).toArray⟩) rfl (by kernel_rfl) (by kernel_rfl) (by kernel_rfl) (fun _ _ _ h => h) (Or.inl ⟨by kernel_rfl, fun w h => by have he := E12.out w; go_simp⟩) hHeld ?_
            try simp only [Act.put, List.getElem_toArray, List.getElem_cons_succ, List.getElem_cons_zero, List.setIfInBounds_toArray, List.set_cons_zero, List.set_cons_succ]
            refine wpAnyH_take (i := 13) (v := .pointer (some ⟨r, 0, none⟩)) rfl (by kernel_rfl) (by kernel_rfl) (by kernel_rfl) (fun _ _ _ h => h) (Or.inl ⟨by kernel_rfl, fun w _ => by go_simp⟩) hHeld ?_
            try simp only [Act.put, List.getElem_toArray, List.getElem_cons_succ, List.getElem_cons_zero, List.setIfInBounds_toArray, List.set_cons_zero, List.set_cons_succ]
            refine wpAnyH_take (i := 14) (v := .pointer (some ⟨q6, 0, none⟩)) rfl (by kernel_rfl) (by kernel_rfl) (by kernel_rfl) (fun _ _ _ h => h) (Or.inl ⟨by kernel_rfl, fun w _ => by go_simp⟩) hHeld ?_
            try simp only [Act.put, List.getElem_toArray, List.getElem_cons_succ, List.getElem_cons_zero, List.setIfInBounds_toArray, List.set_cons_zero, List.set_cons_succ]
            refine wpAnyH_take (i := 15) (v := .int .i64 (x.1 : Int)) rfl (by kernel_rfl) (by kernel_rfl) (by kernel_rfl) (fun _ _ _ h => h) (Or.inl ⟨by kernel_rfl, fun w h => by have hc := h.1; go_simp⟩) hHeld ?_
            try simp only [Act.put, List.getElem_toArray, List.getElem_cons_succ, List.getElem_cons_zero, List.setIfInBounds_toArray, List.set_cons_zero, List.set_cons_succ]
            refine wpAnyH_take (i := 17) (v := .int .i64 (cn : Int)) rfl (by kernel_rfl) (by kernel_rfl) (by kernel_rfl) (fun _ _ _ h => h) (Or.inl ⟨by kernel_rfl, fun w _ => by go_simp⟩) hHeld ?_
            try simp only [Act.put, List.getElem_toArray, List.getElem_cons_succ, List.getElem_cons_zero, List.setIfInBounds_toArray, List.set_cons_zero, List.set_cons_succ]
            refine wpAnyH_ready (rs := [1, 5]) (by kernel_rfl) (by simp) ?_
            refine AllReadyH.cons rfl (fun K hK => ?_) (AllReadyH.cons rfl (fun K hK => ?_) AllReadyH.nil)
            · go_simp
              have ba : Below W.heap.size W (W.alloc (.cells #[] 97)) := (Below.refl _ W).alloc (Nat.le_refl _) _
              have Ew3 := Lib.hid (own_empty_at W N0 (by have := HN0.out; have := BW.out.size; omega))
              have Bw3 := Lib.hid (BW.out.trans (ba.mono (by have := HN0.out; have := BW.out.size; omega)))
              obtain ⟨g0, hg0⟩ : ∃ y, y = W.heap.size := ⟨_, rfl⟩
              obtain ⟨w3, hw⟩ : ∃ V : World, V = W.alloc (.cells #[] 97) := ⟨_, rfl⟩
              rw [← hw] at Ew3 Bw3 ⊢
              rw [← hg0] at Ew3 ⊢
              clear hw ba hg0
              refine hK.out _ _ (HS.out _ Bw3.out) (fun hHeld => ?_)
              try simp only [Act.put, List.getElem_toArray, List.getElem_cons_succ, List.getElem_cons_zero, List.setIfInBounds_toArray, List.set_cons_zero, List.set_cons_succ]
              refine wpAnyH_ready (rs := [5]) (by kernel_rfl) (by simp) ?_
              refine AllReadyH.cons rfl (fun K hK => ?_) AllReadyH.nil
              have hcc := HC1.out _ Bw3.out
              go_simp
              clear hcc
              refine hK.out _ _ hHeld (fun hHeld => ?_)
              try simp only [Act.put, List.getElem_toArray, List.getElem_cons_succ, List.getElem_cons_zero, List.setIfInBounds_toArray, List.set_cons_zero, List.set_cons_succ]
              refine wpAnyH_ready (rs := [6]) (by kernel_rfl) (by simp) ?_
              refine AllReadyH.cons rfl (fun K hK => ?_) AllReadyH.nil
              rw [if_pos (show Region.wanted _ _ = true by kernel_rfl)]
              refine wp_appendC (.tmp 51) (.tmp 55) 49 rfl N0 97 (.agg #[.int .i64 0, .string ⟨#[]⟩]) 2 24 Try.underlying49 waitinfo rfl (by omega) (.slice (some ⟨g0, 0, none⟩) 0 0) 0 (tcells []) rfl Ew3.out Ac CK.length cc (tcells CK) rfl (tcells_length _) (HCM.out _ Bw3.out) (tcell_oneCell _) (by simp only [maxLen]; omega) (by omega) (by have := HN0.out; have := Bw3.out.size; omega) ?_
              intro v1 w5 hown hgrow _ _
              rw [show tcells [] ++ tcells CK = tcells CK from rfl] at hown
              try rw [Nat.zero_add] at hown
              have Bw5 := Lib.hid (Bw3.out.grown hgrow (by have := HN0.out; have := Bw3.out.size; omega) (own_base Ew3.out))
              have Ow5 := Lib.hid hown
              clear hown hgrow
              refine hK.out _ _ (HS.out _ Bw5.out) (fun hHeld => ?_)
              try simp only [Act.put, List.getElem_toArray, List.getElem_cons_succ, List.getElem_cons_zero, List.setIfInBounds_toArray, List.set_cons_zero, List.set_cons_succ]
              refine wpAnyH_ready (rs := [16]) (by kernel_rfl) (by simp) ?_
              refine AllReadyH.cons rfl (fun K hK => ?_) AllReadyH.nil
              go_simp
              go_at_call 44
              have hst := stands_any _ (show RefAt F w5 r _ CK from ⟨_, _, _, _, RD.out.keep (by have := Bw5.out; rwa [HN0.out] at this)⟩) x.1
              rw [← HSL.out] at hst
              refine hst.mono ?_
              rintro e w6 ⟨rfl, hb6⟩
              have B6 := Lib.hid (Bw5.out.trans (hb6.mono (by have := HN0.out; have := Bw5.out.size; omega)))
              have O6 := Lib.hid (own_keep Ow5.out hb6)
              clear hb6
              refine hK.out _ _ (HS.out _ B6.out) (fun hHeld => ?_)
              try simp only [Act.put, List.getElem_toArray, List.getElem_cons_succ, List.getElem_cons_zero, List.setIfInBounds_toArray, List.set_cons_zero, List.set_cons_succ]
              refine wpAnyH_take (i := 18) (v := .string ⟨(sl.drop cn).toArray⟩) rfl (by kernel_rfl) (by kernel_rfl) (by kernel_rfl) (fun _ _ _ h => h) (Or.inl ⟨by kernel_rfl, fun w h => by have he := E18.out w; go_simp⟩) hHeld ?_
              try simp only [Act.put, List.getElem_toArray, List.getElem_cons_succ, List.getElem_cons_zero, List.setIfInBounds_toArray, List.set_cons_zero, List.set_cons_succ]
              refine wpAnyH_take (i := 19) (v := .string ⟨T.toArray⟩) rfl (by kernel_rfl) (by kernel_rfl) (by kernel_rfl) (fun _ _ _ h => h) (Or.inl ⟨by kernel_rfl, fun w h => by have he := E19.out w; go_simp⟩) hHeld ?_
              try simp only [Act.put, List.getElem_toArray, List.getElem_cons_succ, List.getElem_cons_zero, List.setIfInBounds_toArray, List.set_cons_zero, List.set_cons_succ]
              refine wpAnyH_take (i := 20) (v := .agg #[.int .i64 (x.1 : Int), .string ⟨T.toArray⟩]) rfl (by kernel_rfl) (by kernel_rfl) (by kernel_rfl) (fun _ _ _ h => h) (Or.inl ⟨by kernel_rfl, fun w _ => by go_simp⟩) hHeld ?_
              try simp only [Act.put, List.getElem_toArray, List.getElem_cons_succ, List.getElem_cons_zero, List.setIfInBounds_toArray, List.set_cons_zero, List.set_cons_succ]
              refine wpAnyH_ready (rs := [21]) (by kernel_rfl) (by simp) ?_
              refine AllReadyH.cons rfl (fun K hK => ?_) AllReadyH.nil
              go_simp
              have ba : Below w6.heap.size w6 (w6.alloc (.cells #[.int .i64 (x.1 : Int), .string ⟨T.toArray⟩] 97)) := (Below.refl _ w6).alloc (Nat.le_refl _) _
              have X7 := Lib.hid (MemC.new w6 (tcells [(x.1, T)]) 97)
              have B7 := Lib.hid (B6.out.trans (ba.mono (by have := HN0.out; have := B6.out.size; omega)))
              have O7 := Lib.hid (O6.out.alloc (.cells #[.int .i64 (x.1 : Int), .string ⟨T.toArray⟩] 97))
              obtain ⟨gx, hgx⟩ : ∃ y, y = w6.heap.size := ⟨_, rfl⟩
              obtain ⟨w7, hw⟩ : ∃ V : World, V = w6.alloc (.cells #[.int .i64 (x.1 : Int), .string ⟨T.toArray⟩] 97) := ⟨_, rfl⟩
              rw [show (w6.alloc (.cells (tcells [(x.1, T)]).toArray 97)) = w7 by rw [hw]; rfl] at X7
              rw [← hw] at B7 O7 ⊢
              rw [← hgx] at X7 ⊢
              clear hw ba hgx
              refine hK.out _ _ (HS.out _ B7.out) (fun hHeld => ?_)
              try simp only [Act.put, List.getElem_toArray, List.getElem_cons_succ, List.getElem_cons_zero, List.setIfInBounds_toArray, List.set_cons_zero, List.set_cons_succ]
              refine wpAnyH_ready (rs := [22]) (by kernel_rfl) (by simp) ?_
              refine AllReadyH.cons rfl (fun K hK => ?_) AllReadyH.nil
              rw [if_pos (show Region.wanted _ _ = true by kernel_rfl)]
              refine wp_appendC (.tmp 56) (.tmp 71) 49 rfl N0 97 (.agg #[.int .i64 0, .string ⟨#[]⟩]) 2 24 Try.underlying49 waitinfo rfl (by omega) v1 CK.length (tcells CK) rfl O7.out (some ⟨gx, 0, none⟩) 1 1 (tcells [(x.1, T)]) rfl rfl X7.out.cells (tcell_oneCell _) (by simp only [maxLen]; omega) (by omega) (by have := HN0.out; have := B7.out.size; omega) ?_
              intro v2 w9 hown hgrow _ _
              have hb4 := B7.out.grown hgrow (by have := HN0.out; have := B7.out.size; omega) (own_base O7.out)
              rw [← tcells_append] at hown
              obtain ⟨A4, c4, rfl, hl4, hc4, hn4, hm4, ha4⟩ := own_readsT hown
              have HS9 := Lib.hid (HS.out _ hb4)
              rw [HN0.out] at hb4 ha4
              have B4 := Lib.hid hb4
              have C4 := Lib.hid hc4
              have A4L := Lib.hid ha4
              clear hown hgrow hb4 hc4 ha4
              refine hK.out _ _ HS9.out (fun hHeld => ?_)
              try simp only [Act.put, List.getElem_toArray, List.getElem_cons_succ, List.getElem_cons_zero, List.setIfInBounds_toArray, List.set_cons_zero, List.set_cons_succ]
              refine wpAnyH_take (i := 23) (v := .pointer (some ⟨r, 0, none⟩)) rfl (by kernel_rfl) (by kernel_rfl) (by kernel_rfl) (fun _ _ _ h => h) (Or.inl ⟨by kernel_rfl, fun w _ => by go_simp⟩) hHeld ?_
              try simp only [Act.put, List.getElem_toArray, List.getElem_cons_succ, List.getElem_cons_zero, List.setIfInBounds_toArray, List.set_cons_zero, List.set_cons_succ]
              refine wpAnyH_take (i := 24) (v := .pointer (some ⟨r, 1, none⟩)) rfl (by kernel_rfl) (by kernel_rfl) (by kernel_rfl) (fun _ _ _ h => h) (Or.inl ⟨by kernel_rfl, fun w _ => by go_simp⟩) hHeld ?_
              try simp only [Act.put, List.getElem_toArray, List.getElem_cons_succ, List.getElem_cons_zero, List.setIfInBounds_toArray, List.set_cons_zero, List.set_cons_succ]
              have RE := RD.out.keep B4.out
              obtain ⟨j1, j2⟩ := RE.head.get 1 _ rfl
              refine wpAnyH_ready (rs := [25]) (by kernel_rfl) (by simp) ?_
              refine AllReadyH.cons rfl (fun K hK => ?_) AllReadyH.nil
              go_simp
              clear j1 j2 RE
              have hok2 := crash_step_ok HOK.out keep torn cut hc (k + 1) (by omega)
              have hT2 : CK ++ [(x.1, T)] = crashC keep torn cut D C (k + 1) := by
                show _ = crashC keep torn cut D C k ++ [_]
                rw [← HCK.out, HX.out, HCNE.out, ← HSL.out, ← HT.out]
              have hfin := RD.out.gone (D' := { D with blks := crashK keep torn cut D (k + 1) }) (C' := CK ++ [(x.1, T)]) B4.out C4.out A4L.out (by rw [hl4]; exact hn4) hm4 hok2 rfl (by show (crashK keep torn cut D (k + 1)).length = (crashK keep torn cut D k).length; rw [crashK_length, crashK_length]) rfl rfl (fun y hy => by
                rcases List.mem_append.1 hy with h | h
                · exact RD.out.cok y h
                · rw [List.mem_singleton.1 h]; exact HTL.out) (by
                have hag := RD.out.agree
                have h2 := crash_agree (C := CK) HOK.out keep torn cut hc k hlt (fun a ha => hag a (by show a < (crashK keep torn cut D k).length; rw [crashK_length]; exact ha))
                rw [HX.out, HCNE.out, ← HSL.out, ← HT.out] at h2
                intro a ha
                exact h2 a (by have : a < (crashK keep torn cut D k).length := ha; rwa [crashK_length] at this)) (by rw [List.length_append, List.length_singleton]; omega)
              rw [hl4] at hfin
              have R5 : Hid (∃ Ac cc, RefIn F (w9.setCell ⟨r, 1, none⟩ (.slice A4 (CK.length + 1) c4)) r Ac cc (some ⟨b, o, none⟩) wc { D with blks := crashK keep torn cut D (k + 1) } (crashC keep torn cut D C (k + 1))) := Lib.hid ⟨_, _, by rw [← hT2]; exact hfin⟩
              have T5 := Lib.hid ((TD.out.trans (Turn.of_below B4.out)).trans (Turn.set (F := fun b => b = r) (i := 1) w9 rfl (.slice A4 (CK.length + 1) c4)))
              have far : ∀ i, (w9.setCell ⟨r, 1, none⟩ (.slice A4 (CK.length + 1) c4)).cell? ⟨q6, i, none⟩ = w9.cell? ⟨q6, i, none⟩ := fun i => World.cell?_setCell_other w9 ⟨r, 1, none⟩ ⟨q6, i, none⟩ _ (fun e => by injection e with e; have := HQR.out; omega)
              refine hK.out _ _ ⟨(far _).trans HS9.out.1, (far _).trans HS9.out.2⟩ (fun hHeld => ?_)
              try simp only [Act.put, List.getElem_toArray, List.getElem_cons_succ, List.getElem_cons_zero, List.setIfInBounds_toArray, List.set_cons_zero, List.set_cons_succ]
              clear hfin hok2 far hT2
              refine wpAnyH_done (by kernel_rfl) ?_ _
              clear hHeld
              go_wp2_with fail
              go_roundw
              case rel => exact ⟨k + 1, by omega, by go_num, R5.out, T5.out⟩
              case measure => simp [intOf]; omega
            · have hcc := HC1.out _ BW.out
              go_simp
              clear hcc
              refine hK.out _ _ hHeld (fun hHeld => ?_)
              try simp only [Act.put, List.getElem_toArray, List.getElem_cons_succ, List.getElem_cons_zero, List.setIfInBounds_toArray, List.set_cons_zero, List.set_cons_succ]
              refine wpAnyH_ready (rs := [1]) (by kernel_rfl) (by simp) ?_
              refine AllReadyH.cons rfl (fun K hK => ?_) AllReadyH.nil
              go_simp
              have ba : Below W.heap.size W (W.alloc (.cells #[] 97)) := (Below.refl _ W).alloc (Nat.le_refl _) _
              have Ew4 := Lib.hid (own_empty_at W N0 (by have := HN0.out; have := BW.out.size; omega))
              have Bw4 := Lib.hid (BW.out.trans (ba.mono (by have := HN0.out; have := BW.out.size; omega)))
              obtain ⟨g0, hg0⟩ : ∃ y, y = W.heap.size := ⟨_, rfl⟩
              obtain ⟨w4, hw⟩ : ∃ V : World, V = W.alloc (.cells #[] 97) := ⟨_, rfl⟩
              rw [← hw] at Ew4 Bw4 ⊢
              rw [← hg0] at Ew4 ⊢
              clear hw ba hg0
              refine hK.out _ _ (HS.out _ Bw4.out) (fun hHeld => ?_)
              try simp only [Act.put, List.getElem_toArray, List.getElem_cons_succ, List.getElem_cons_zero, List.setIfInBounds_toArray, List.set_cons_zero, List.set_cons_succ]
              refine wpAnyH_ready (rs := [6]) (by kernel_rfl) (by simp) ?_
              refine AllReadyH.cons rfl (fun K hK => ?_) AllReadyH.nil
              rw [if_pos (show Region.wanted _ _ = true by kernel_rfl)]
              refine wp_appendC (.tmp 51) (.tmp 55) 49 rfl N0 97 (.agg #[.int .i64 0, .string ⟨#[]⟩]) 2 24 Try.underlying49 waitinfo rfl (by omega) (.slice (some ⟨g0, 0, none⟩) 0 0) 0 (tcells []) rfl Ew4.out Ac CK.length cc (tcells CK) rfl (tcells_length _) (HCM.out _ Bw4.out) (tcell_oneCell _) (by simp only [maxLen]; omega) (by omega) (by have := HN0.out; have := Bw4.out.size; omega) ?_
              intro v1 w5 hown hgrow _ _
              rw [show tcells [] ++ tcells CK = tcells CK from rfl] at hown
              try rw [Nat.zero_add] at hown
              have Bw5 := Lib.hid (Bw4.out.grown hgrow (by have := HN0.out; have := Bw4.out.size; omega) (own_base Ew4.out))
              have Ow5 := Lib.hid hown
              clear hown hgrow
              refine hK.out _ _ (HS.out _ Bw5.out) (fun hHeld => ?_)
              try simp only [Act.put, List.getElem_toArray, List.getElem_cons_succ, List.getElem_cons_zero, List.setIfInBounds_toArray, List.set_cons_zero, List.set_cons_succ]
              refine wpAnyH_ready (rs := [16]) (by kernel_rfl) (by simp) ?_
              refine AllReadyH.cons rfl (fun K hK => ?_) AllReadyH.nil
              go_simp
              go_at_call 44
              have hst := stands_any _ (show RefAt F w5 r _ CK from ⟨_, _, _, _, RD.out.keep (by have := Bw5.out; rwa [HN0.out] at this)⟩) x.1
              rw [← HSL.out] at hst
              refine hst.mono ?_
              rintro e w6 ⟨rfl, hb6⟩
              have B6 := Lib.hid (Bw5.out.trans (hb6.mono (by have := HN0.out; have := Bw5.out.size; omega)))
              have O6 := Lib.hid (own_keep Ow5.out hb6)
              clear hb6
              refine hK.out _ _ (HS.out _ B6.out) (fun hHeld => ?_)
              try simp only [Act.put, List.getElem_toArray, List.getElem_cons_succ, List.getElem_cons_zero, List.setIfInBounds_toArray, List.set_cons_zero, List.set_cons_succ]
              refine wpAnyH_take (i := 18) (v := .string ⟨(sl.drop cn).toArray⟩) rfl (by kernel_rfl) (by kernel_rfl) (by kernel_rfl) (fun _ _ _ h => h) (Or.inl ⟨by kernel_rfl, fun w h => by have he := E18.out w; go_simp⟩) hHeld ?_
              try simp only [Act.put, List.getElem_toArray, List.getElem_cons_succ, List.getElem_cons_zero, List.setIfInBounds_toArray, List.set_cons_zero, List.set_cons_succ]
              refine wpAnyH_take (i := 19) (v := .string ⟨T.toArray⟩) rfl (by kernel_rfl) (by kernel_rfl) (by kernel_rfl) (fun _ _ _ h => h) (Or.inl ⟨by kernel_rfl, fun w h => by have he := E19.out w; go_simp⟩) hHeld ?_
              try simp only [Act.put, List.getElem_toArray, List.getElem_cons_succ, List.getElem_cons_zero, List.setIfInBounds_toArray, List.set_cons_zero, List.set_cons_succ]
              refine wpAnyH_take (i := 20) (v := .agg #[.int .i64 (x.1 : Int), .string ⟨T.toArray⟩]) rfl (by kernel_rfl) (by kernel_rfl) (by kernel_rfl) (fun _ _ _ h => h) (Or.inl ⟨by kernel_rfl, fun w _ => by go_simp⟩) hHeld ?_
              try simp only [Act.put, List.getElem_toArray, List.getElem_cons_succ, List.getElem_cons_zero, List.setIfInBounds_toArray, List.set_cons_zero, List.set_cons_succ]
              refine wpAnyH_ready (rs := [21]) (by kernel_rfl) (by simp) ?_
              refine AllReadyH.cons rfl (fun K hK => ?_) AllReadyH.nil
              go_simp
              have ba : Below w6.heap.size w6 (w6.alloc (.cells #[.int .i64 (x.1 : Int), .string ⟨T.toArray⟩] 97)) := (Below.refl _ w6).alloc (Nat.le_refl _) _
              have X7 := Lib.hid (MemC.new w6 (tcells [(x.1, T)]) 97)
              have B7 := Lib.hid (B6.out.trans (ba.mono (by have := HN0.out; have := B6.out.size; omega)))
              have O7 := Lib.hid (O6.out.alloc (.cells #[.int .i64 (x.1 : Int), .string ⟨T.toArray⟩] 97))
              obtain ⟨gx, hgx⟩ : ∃ y, y = w6.heap.size := ⟨_, rfl⟩
              obtain ⟨w7, hw⟩ : ∃ V : World, V = w6.alloc (.cells #[.int .i64 (x.1 : Int), .string ⟨T.toArray⟩] 97) := ⟨_, rfl⟩
              rw [show (w6.alloc (.cells (tcells [(x.1, T)]).toArray 97)) = w7 by rw [hw]; rfl] at X7
              rw [← hw] at B7 O7 ⊢
              rw [← hgx] at X7 ⊢
              clear hw ba hgx
              refine hK.out _ _ (HS.out _ B7.out) (fun hHeld => ?_)
              try simp only [Act.put, List.getElem_toArray, List.getElem_cons_succ, List.getElem_cons_zero, List.setIfInBounds_toArray, List.set_cons_zero, List.set_cons_succ]
              refine wpAnyH_ready (rs := [22]) (by kernel_rfl) (by simp) ?_
              refine AllReadyH.cons rfl (fun K hK => ?_) AllReadyH.nil
              rw [if_pos (show Region.wanted _ _ = true by kernel_rfl)]
              refine wp_appendC (.tmp 56) (.tmp 71) 49 rfl N0 97 (.agg #[.int .i64 0, .string ⟨#[]⟩]) 2 24 Try.underlying49 waitinfo rfl (by omega) v1 CK.length (tcells CK) rfl O7.out (some ⟨gx, 0, none⟩) 1 1 (tcells [(x.1, T)]) rfl rfl X7.out.cells (tcell_oneCell _) (by simp only [maxLen]; omega) (by omega) (by have := HN0.out; have := B7.out.size; omega) ?_
              intro v2 w9 hown hgrow _ _
              have hb4 := B7.out.grown hgrow (by have := HN0.out; have := B7.out.size; omega) (own_base O7.out)
              rw [← tcells_append] at hown
              obtain ⟨A4, c4, rfl, hl4, hc4, hn4, hm4, ha4⟩ := own_readsT hown
              have HS9 := Lib.hid (HS.out _ hb4)
              rw [HN0.out] at hb4 ha4
              have B4 := Lib.hid hb4
              have C4 := Lib.hid hc4
              have A4L := Lib.hid ha4
              clear hown hgrow hb4 hc4 ha4
              refine hK.out _ _ HS9.out (fun hHeld => ?_)
              try simp only [Act.put, List.getElem_toArray, List.getElem_cons_succ, List.getElem_cons_zero, List.setIfInBounds_toArray, List.set_cons_zero, List.set_cons_succ]
              refine wpAnyH_take (i := 23) (v := .pointer (some ⟨r, 0, none⟩)) rfl (by kernel_rfl) (by kernel_rfl) (by kernel_rfl) (fun _ _ _ h => h) (Or.inl ⟨by kernel_rfl, fun w _ => by go_simp⟩) hHeld ?_
              try simp only [Act.put, List.getElem_toArray, List.getElem_cons_succ, List.getElem_cons_zero, List.setIfInBounds_toArray, List.set_cons_zero, List.set_cons_succ]
              refine wpAnyH_take (i := 24) (v := .pointer (some ⟨r, 1, none⟩)) rfl (by kernel_rfl) (by kernel_rfl) (by kernel_rfl) (fun _ _ _ h => h) (Or.inl ⟨by kernel_rfl, fun w _ => by go_simp⟩) hHeld ?_
              try simp only [Act.put, List.getElem_toArray, List.getElem_cons_succ, List.getElem_cons_zero, List.setIfInBounds_toArray, List.set_cons_zero, List.set_cons_succ]
              have RE := RD.out.keep B4.out
              obtain ⟨j1, j2⟩ := RE.head.get 1 _ rfl
              refine wpAnyH_ready (rs := [25]) (by kernel_rfl) (by simp) ?_
              refine AllReadyH.cons rfl (fun K hK => ?_) AllReadyH.nil
              go_simp
              clear j1 j2 RE
              have hok2 := crash_step_ok HOK.out keep torn cut hc (k + 1) (by omega)
              have hT2 : CK ++ [(x.1, T)] = crashC keep torn cut D C (k + 1) := by
                show _ = crashC keep torn cut D C k ++ [_]
                rw [← HCK.out, HX.out, HCNE.out, ← HSL.out, ← HT.out]
              have hfin := RD.out.gone (D' := { D with blks := crashK keep torn cut D (k + 1) }) (C' := CK ++ [(x.1, T)]) B4.out C4.out A4L.out (by rw [hl4]; exact hn4) hm4 hok2 rfl (by show (crashK keep torn cut D (k + 1)).length = (crashK keep torn cut D k).length; rw [crashK_length, crashK_length]) rfl rfl (fun y hy => by
                rcases List.mem_append.1 hy with h | h
                · exact RD.out.cok y h
                · rw [List.mem_singleton.1 h]; exact HTL.out) (by
                have hag := RD.out.agree
                have h2 := crash_agree (C := CK) HOK.out keep torn cut hc k hlt (fun a ha => hag a (by show a < (crashK keep torn cut D k).length; rw [crashK_length]; exact ha))
                rw [HX.out, HCNE.out, ← HSL.out, ← HT.out] at h2
                intro a ha
                exact h2 a (by have : a < (crashK keep torn cut D k).length := ha; rwa [crashK_length] at this)) (by rw [List.length_append, List.length_singleton]; omega)
              rw [hl4] at hfin
              have R5 : Hid (∃ Ac cc, RefIn F (w9.setCell ⟨r, 1, none⟩ (.slice A4 (CK.length + 1) c4)) r Ac cc (some ⟨b, o, none⟩) wc { D with blks := crashK keep torn cut D (k + 1) } (crashC keep torn cut D C (k + 1))) := Lib.hid ⟨_, _, by rw [← hT2]; exact hfin⟩
              have T5 := Lib.hid ((TD.out.trans (Turn.of_below B4.out)).trans (Turn.set (F := fun b => b = r) (i := 1) w9 rfl (.slice A4 (CK.length + 1) c4)))
              have far : ∀ i, (w9.setCell ⟨r, 1, none⟩ (.slice A4 (CK.length + 1) c4)).cell? ⟨q6, i, none⟩ = w9.cell? ⟨q6, i, none⟩ := fun i => World.cell?_setCell_other w9 ⟨r, 1, none⟩ ⟨q6, i, none⟩ _ (fun e => by injection e with e; have := HQR.out; omega)
              refine hK.out _ _ ⟨(far _).trans HS9.out.1, (far _).trans HS9.out.2⟩ (fun hHeld => ?_)
              try simp only [Act.put, List.getElem_toArray, List.getElem_cons_succ, List.getElem_cons_zero, List.setIfInBounds_toArray, List.set_cons_zero, List.set_cons_succ]
              clear hfin hok2 far hT2
              refine wpAnyH_done (by kernel_rfl) ?_ _
              clear hHeld
              go_wp2_with fail
              go_roundw
              case rel => exact ⟨k + 1, by omega, by go_num, R5.out, T5.out⟩
              case measure => simp [intOf]; omega
          · have hq1 : ((k : Int) == torn) = false := by simpa using htk
            obtain ⟨cn, hcn⟩ : ∃ cn : Nat, cn = 128 := ⟨_, rfl⟩
            have HCNE : Hid (cutN keep torn cut k = cn) := Lib.hid (by rw [hcn, HCN.out]; rw [if_neg htk]; rw [if_pos rfl])
            have hcn128 : cn ≤ 128 := by omega
            have HCV := Lib.hid hcn
            clear htk HCN
            clear hcn
            go_upto_region 12 with fail
            have hv : Value.int .i64 128 = Value.int .i64 (cn : Int) := by rw [HCV.out]; rfl
            rw [hv]
            clear hv
            obtain ⟨W, hW⟩ : ∃ V : World, V = w2.drew := ⟨_, rfl⟩
            have bd : Below w2.heap.size w2 W := by rw [hW]; exact (Below.refl w2.heap.size w2).drew
            have RD := Lib.hid (R2.out.keep bd)
            have TD := Lib.hid (T2.out.trans (Turn.of_below bd))
            have XD := Lib.hid (X2.out.keep bd)
            have HS : Hid (∀ w', Below W.heap.size W w' → w'.cell? ⟨q6, 0, none⟩ = some (.int .i64 (x.1 : Int)) ∧ w'.cell? ⟨q6, 1, none⟩ = some (.string ⟨x.2.toArray⟩)) := Lib.hid fun w' hb => ⟨((XD.out.keep hb).get 0 _ rfl).1, ((XD.out.keep hb).get 1 _ rfl).1⟩
            refine wp_region_held_drew (S := fun w' => w'.cell? ⟨q6, 0, none⟩ = some (.int .i64 (x.1 : Int)) ∧ w'.cell? ⟨q6, 1, none⟩ = some (.string ⟨x.2.toArray⟩)) (by kernel_rfl) (by rw [← hW]; exact HS.out _ (Below.refl _ _)) (fun hHeld => ?_)
            rw [← hW] at hHeld ⊢
            have HC1 : Hid (∀ w', Below W.heap.size W w' → w'.cell? ⟨r, 1, none⟩ = some (.slice Ac CK.length cc)) := Lib.hid fun w' hb => ((RD.out.keep hb).head.get 1 _ rfl).1
            have HCM : Hid (∀ w', Below W.heap.size W w' → Cells w' Ac (tcells CK)) := Lib.hid fun w' hb => (RD.out.keep hb).came
            have BW := Lib.hid (Below.refl W.heap.size W)
            obtain ⟨N0, hN0⟩ : ∃ N, N = W.heap.size := ⟨_, rfl⟩
            rw [← hN0] at HS HC1 HCM BW
            have HN0 := Lib.hid hN0
            obtain ⟨sl, hsl⟩ : ∃ sl, sl = standsL CK x.1 := ⟨_, rfl⟩
            have HSL := Lib.hid hsl
            have hslen : sl.length = 128 := by rw [hsl]; exact standsL_length RD.out.cok _
            obtain ⟨T, hT⟩ : ∃ T, T = x.2.take cn ++ sl.drop cn := ⟨_, rfl⟩
            have HT := Lib.hid hT
            have HTL : Hid (T.length = 128) := Lib.hid (by rw [hT, List.length_append, List.length_take, List.length_drop, HXL.out, hslen]; omega)
            have E12 : Hid (∀ w, _) := Lib.hid (fun w => cut_to w x.2 cn (by rw [HXL.out]; exact hcn128))
            have E18 : Hid (∀ w, _) := Lib.hid (fun w => cut_from w sl cn (by rw [hslen]; exact hcn128))
            have E19 : Hid (∀ w, (Op.stringOp .add ⟨(x.2.take cn).toArray⟩ ⟨(sl.drop cn).toArray⟩).run Try.prog w = .ok (.string ⟨T.toArray⟩) w) := Lib.hid (fun w => by rw [hT]; exact run_string_add_lists w _ _ (by rw [List.length_take, HXL.out]; omega) (by rw [List.length_drop, hslen]; omega))
            clear hW bd R2 T2 X2 M2 C2 g0 g1 g2 hN0 hsl hT hslen
            refine wpAnyH_take (i := 0) (v := .pointer (some ⟨r, 0, none⟩)) rfl (by kernel_rfl) (by kernel_rfl) (by kernel_rfl) (fun _ _ _ h => h) (Or.inl ⟨by kernel_rfl, fun w _ => by go_simp⟩) hHeld ?_
            try simp only [Act.put, List.getElem_toArray, List.getElem_cons_succ, List.getElem_cons_zero, List.setIfInBounds_toArray, List.set_cons_zero, List.set_cons_succ]
            refine wpAnyH_take (i := 2) (v := .pointer (some ⟨r, 0, none⟩)) rfl (by kernel_rfl) (by kernel_rfl) (by kernel_rfl) (fun _ _ _ h => h) (Or.inl ⟨by kernel_rfl, fun w _ => by go_simp⟩) hHeld ?_
            try simp only [Act.put, List.getElem_toArray, List.getElem_cons_succ, List.getElem_cons_zero, List.setIfInBounds_toArray, List.set_cons_zero, List.set_cons_succ]
            refine wpAnyH_take (i := 3) (v := .pointer (some ⟨r, 0, none⟩)) rfl (by kernel_rfl) (by kernel_rfl) (by kernel_rfl) (fun _ _ _ h => h) (Or.inl ⟨by kernel_rfl, fun w _ => by go_simp⟩) hHeld ?_
            try simp only [Act.put, List.getElem_toArray, List.getElem_cons_succ, List.getElem_cons_zero, List.setIfInBounds_toArray, List.set_cons_zero, List.set_cons_succ]
            refine wpAnyH_take (i := 4) (v := .pointer (some ⟨r, 1, none⟩)) rfl (by kernel_rfl) (by kernel_rfl) (by kernel_rfl) (fun _ _ _ h => h) (Or.inl ⟨by kernel_rfl, fun w _ => by go_simp⟩) hHeld ?_
            try simp only [Act.put, List.getElem_toArray, List.getElem_cons_succ, List.getElem_cons_zero, List.setIfInBounds_toArray, List.set_cons_zero, List.set_cons_succ]
            refine wpAnyH_take (i := 7) (v := .pointer (some ⟨q6, 0, none⟩)) rfl (by kernel_rfl) (by kernel_rfl) (by kernel_rfl) (fun _ _ _ h => h) (Or.inl ⟨by kernel_rfl, fun w _ => by go_simp⟩) hHeld ?_
            try simp only [Act.put, List.getElem_toArray, List.getElem_cons_succ, List.getElem_cons_zero, List.setIfInBounds_toArray, List.set_cons_zero, List.set_cons_succ]
            refine wpAnyH_take (i := 8) (v := .int .i64 (x.1 : Int)) rfl (by kernel_rfl) (by kernel_rfl) (by kernel_rfl) (fun _ _ _ h => h) (Or.inl ⟨by kernel_rfl, fun w h => by have hc := h.1; go_simp⟩) hHeld ?_
            try simp only [Act.put, List.getElem_toArray, List.getElem_cons_succ, List.getElem_cons_zero, List.setIfInBounds_toArray, List.set_cons_zero, List.set_cons_succ]
            refine wpAnyH_take (i := 9) (v := .pointer (some ⟨q6, 1, none⟩)) rfl (by kernel_rfl) (by kernel_rfl) (by kernel_rfl) (fun _ _ _ h => h) (Or.inl ⟨by kernel_rfl, fun w _ => by go_simp⟩) hHeld ?_
            try simp only [Act.put, List.getElem_toArray, List.getElem_cons_succ, List.getElem_cons_zero, List.setIfInBounds_toArray, List.set_cons_zero, List.set_cons_succ]
            refine wpAnyH_take (i := 10) (v := .string ⟨x.2.toArray⟩) rfl (by kernel_rfl) (by kernel_rfl) (by kernel_rfl) (fun _ _ _ h => h) (Or.inl ⟨by kernel_rfl, fun w h => by have hc := h.2; go_simp⟩) hHeld ?_
            try simp only [Act.put, List.getElem_toArray, List.getElem_cons_succ, List.getElem_cons_zero, List.setIfInBounds_toArray, List.set_cons_zero, List.set_cons_succ]
            refine wpAnyH_take (i := 11) (v := .int .i64 (cn : Int)) rfl (by kernel_rfl) (by kernel_rfl) (by kernel_rfl) (fun _ _ _ h => h) (Or.inl ⟨by kernel_rfl, fun w _ => by go_simp⟩) hHeld ?_
            try simp only [Act.put, List.getElem_toArray, List.getElem_cons_succ, List.getElem_cons_zero, List.setIfInBounds_toArray, List.set_cons_zero, List.set_cons_succ]
            refine wpAnyH_take (i := 12) (v := .string ⟨(x.2.take cn).toArray⟩) rfl (by kernel_rfl) (by kernel_rfl) (by kernel_rfl) (fun _ _ _ h => h) (Or.inl ⟨by kernel_rfl, fun w h => by have he := E12.out w; go_simp⟩) hHeld ?_
            try simp only [Act.put, List.getElem_toArray, List.getElem_cons_succ, List.getElem_cons_zero, List.setIfInBounds_toArray, List.set_cons_zero, List.set_cons_succ]
            refine wpAnyH_take (i := 13) (v := .pointer (some ⟨r, 0, none⟩)) rfl (by kernel_rfl) (by kernel_rfl) (by kernel_rfl) (fun _ _ _ h => h) (Or.inl ⟨by kernel_rfl, fun w _ => by go_simp⟩) hHeld ?_
            try simp only [Act.put, List.getElem_toArray, List.getElem_cons_succ, List.getElem_cons_zero, List.setIfInBounds_toArray, List.set_cons_zero, List.set_cons_succ]
            refine wpAnyH_take (i := 14) (v := .pointer (some ⟨q6, 0, none⟩)) rfl (by kernel_rfl) (by kernel_rfl) (by kernel_rfl) (fun _ _ _ h => h) (Or.inl ⟨by kernel_rfl, fun w _ => by go_simp⟩) hHeld ?_
            try simp only [Act.put, List.getElem_toArray, List.getElem_cons_succ, List.getElem_cons_zero, List.setIfInBounds_toArray, List.set_cons_zero, List.set_cons_succ]
            refine wpAnyH_take (i := 15) (v := .int .i64 (x.1 : Int)) rfl (by kernel_rfl) (by kernel_rfl) (by kernel_rfl) (fun _ _ _ h => h) (Or.inl ⟨by kernel_rfl, fun w h => by have hc := h.1; go_simp⟩) hHeld ?_
            try simp only [Act.put, List.getElem_toArray, List.getElem_cons_succ, List.getElem_cons_zero, List.setIfInBounds_toArray, List.set_cons_zero, List.set_cons_succ]
            refine wpAnyH_take (i := 17) (v := .int .i64 (cn : Int)) rfl (by kernel_rfl) (by kernel_rfl) (by kernel_rfl) (fun _ _ _ h => h) (Or.inl ⟨by kernel_rfl, fun w _ => by go_simp⟩) hHeld ?_
            try simp only [Act.put, List.getElem_toArray, List.getElem_cons_succ, List.getElem_cons_zero, List.setIfInBounds_toArray, List.set_cons_zero, List.set_cons_succ]
            refine wpAnyH_ready (rs := [1, 5]) (by kernel_rfl) (by simp) ?_
            refine AllReadyH.cons rfl (fun K hK => ?_) (AllReadyH.cons rfl (fun K hK => ?_) AllReadyH.nil)
            · go_simp
              have ba : Below W.heap.size W (W.alloc (.cells #[] 97)) := (Below.refl _ W).alloc (Nat.le_refl _) _
              have Ew3 := Lib.hid (own_empty_at W N0 (by have := HN0.out; have := BW.out.size; omega))
              have Bw3 := Lib.hid (BW.out.trans (ba.mono (by have := HN0.out; have := BW.out.size; omega)))
              obtain ⟨g0, hg0⟩ : ∃ y, y = W.heap.size := ⟨_, rfl⟩
              obtain ⟨w3, hw⟩ : ∃ V : World, V = W.alloc (.cells #[] 97) := ⟨_, rfl⟩
              rw [← hw] at Ew3 Bw3 ⊢
              rw [← hg0] at Ew3 ⊢
              clear hw ba hg0
              refine hK.out _ _ (HS.out _ Bw3.out) (fun hHeld => ?_)
              try simp only [Act.put, List.getElem_toArray, List.getElem_cons_succ, List.getElem_cons_zero, List.setIfInBounds_toArray, List.set_cons_zero, List.set_cons_succ]
              refine wpAnyH_ready (rs := [5]) (by kernel_rfl) (by simp) ?_
              refine AllReadyH.cons rfl (fun K hK => ?_) AllReadyH.nil
              have hcc := HC1.out _ Bw3.out
              go_simp
              clear hcc
              refine hK.out _ _ hHeld (fun hHeld => ?_)
              try simp only [Act.put, List.getElem_toArray, List.getElem_cons_succ, List.getElem_cons_zero, List.setIfInBounds_toArray, List.set_cons_zero, List.set_cons_succ]
              refine wpAnyH_ready (rs := [6]) (by kernel_rfl) (by simp) ?_
              refine AllReadyH.cons rfl (fun K hK => ?_) AllReadyH.nil
              rw [if_pos (show Region.wanted _ _ = true by kernel_rfl)]
              refine wp_appendC (.tmp 51) (.tmp 55) 49 rfl N0 97 (.agg #[.int .i64 0, .string ⟨#[]⟩]) 2 24 Try.underlying49 waitinfo rfl (by omega) (.slice (some ⟨g0, 0, none⟩) 0 0) 0 (tcells []) rfl Ew3.out Ac CK.length cc (tcells CK) rfl (tcells_length _) (HCM.out _ Bw3.out) (tcell_oneCell _) (by simp only [maxLen]; omega) (by omega) (by have := HN0.out; have := Bw3.out.size; omega) ?_
              intro v1 w5 hown hgrow _ _
              rw [show tcells [] ++ tcells CK = tcells CK from rfl] at hown
              try rw [Nat.zero_add] at hown
              have Bw5 := Lib.hid (Bw3.out.grown hgrow (by have := HN0.out; have := Bw3.out.size; omega) (own_base Ew3.out))
              have Ow5 := Lib.hid hown
              clear hown hgrow
              refine hK.out _ _ (HS.out _ Bw5.out) (fun hHeld => ?_)
              try simp only [Act.put, List.getElem_toArray, List.getElem_cons_succ, List.getElem_cons_zero, List.setIfInBounds_toArray, List.set_cons_zero, List.set_cons_succ]
              refine wpAnyH_ready (rs := [16]) (by kernel_rfl) (by simp) ?_
              refine AllReadyH.cons rfl (fun K hK => ?_) AllReadyH.nil
              go_simp
              go_at_call 44
              have hst := stands_any _ (show RefAt F w5 r _ CK from ⟨_, _, _, _, RD.out.keep (by have := Bw5.out; rwa [HN0.out] at this)⟩) x.1
              rw [← HSL.out] at hst
              refine hst.mono ?_
              rintro e w6 ⟨rfl, hb6⟩
              have B6 := Lib.hid (Bw5.out.trans (hb6.mono (by have := HN0.out; have := Bw5.out.size; omega)))
              have O6 := Lib.hid (own_keep Ow5.out hb6)
              clear hb6
              refine hK.out _ _ (HS.out _ B6.out) (fun hHeld => ?_)
              try simp only [Act.put, List.getElem_toArray, List.getElem_cons_succ, List.getElem_cons_zero, List.setIfInBounds_toArray, List.set_cons_zero, List.set_cons_succ]
              refine wpAnyH_take (i := 18) (v := .string ⟨(sl.drop cn).toArray⟩) rfl (by kernel_rfl) (by kernel_rfl) (by kernel_rfl) (fun _ _ _ h => h) (Or.inl ⟨by kernel_rfl, fun w h => by have he := E18.out w; go_simp⟩) hHeld ?_
              try simp only [Act.put, List.getElem_toArray, List.getElem_cons_succ, List.getElem_cons_zero, List.setIfInBounds_toArray, List.set_cons_zero, List.set_cons_succ]
              refine wpAnyH_take (i := 19) (v := .string ⟨T.toArray⟩) rfl (by kernel_rfl) (by kernel_rfl) (by kernel_rfl) (fun _ _ _ h => h) (Or.inl ⟨by kernel_rfl, fun w h => by have he := E19.out w; go_simp⟩) hHeld ?_
              try simp only [Act.put, List.getElem_toArray, List.getElem_cons_succ, List.getElem_cons_zero, List.setIfInBounds_toArray, List.set_cons_zero, List.set_cons_succ]
              refine wpAnyH_take (i := 20) (v := .agg #[.int .i64 (x.1 : Int), .string ⟨T.toArray⟩]) rfl (by kernel_rfl) (by kernel_rfl) (by kernel_rfl) (fun _ _ _ h => h) (Or.inl ⟨by kernel_rfl, fun w _ => by go_simp⟩) hHeld ?_
              try simp only [Act.put, List.getElem_toArray, List.getElem_cons_succ, List.getElem_cons_zero, List.setIfInBounds_toArray, List.set_cons_zero, List.set_cons_succ]
              refine wpAnyH_ready (rs := [21]) (by kernel_rfl) (by simp) ?_
              refine AllReadyH.cons rfl (fun K hK => ?_) AllReadyH.nil
              go_simp
              have ba : Below w6.heap.size w6 (w6.alloc (.cells #[.int .i64 (x.1 : Int), .string ⟨T.toArray⟩] 97)) := (Below.refl _ w6).alloc (Nat.le_refl _) _
              have X7 := Lib.hid (MemC.new w6 (tcells [(x.1, T)]) 97)
              have B7 := Lib.hid (B6.out.trans (ba.mono (by have := HN0.out; have := B6.out.size; omega)))
              have O7 := Lib.hid (O6.out.alloc (.cells #[.int .i64 (x.1 : Int), .string ⟨T.toArray⟩] 97))
              obtain ⟨gx, hgx⟩ : ∃ y, y = w6.heap.size := ⟨_, rfl⟩
              obtain ⟨w7, hw⟩ : ∃ V : World, V = w6.alloc (.cells #[.int .i64 (x.1 : Int), .string ⟨T.toArray⟩] 97) := ⟨_, rfl⟩
              rw [show (w6.alloc (.cells (tcells [(x.1, T)]).toArray 97)) = w7 by rw [hw]; rfl] at X7
              rw [← hw] at B7 O7 ⊢
              rw [← hgx] at X7 ⊢
              clear hw ba hgx
              refine hK.out _ _ (HS.out _ B7.out) (fun hHeld => ?_)
              try simp only [Act.put, List.getElem_toArray, List.getElem_cons_succ, List.getElem_cons_zero, List.setIfInBounds_toArray, List.set_cons_zero, List.set_cons_succ]
              refine wpAnyH_ready (rs := [22]) (by kernel_rfl) (by simp) ?_
              refine AllReadyH.cons rfl (fun K hK => ?_) AllReadyH.nil
              rw [if_pos (show Region.wanted _ _ = true by kernel_rfl)]
              refine wp_appendC (.tmp 56) (.tmp 71) 49 rfl N0 97 (.agg #[.int .i64 0, .string ⟨#[]⟩]) 2 24 Try.underlying49 waitinfo rfl (by omega) v1 CK.length (tcells CK) rfl O7.out (some ⟨gx, 0, none⟩) 1 1 (tcells [(x.1, T)]) rfl rfl X7.out.cells (tcell_oneCell _) (by simp only [maxLen]; omega) (by omega) (by have := HN0.out; have := B7.out.size; omega) ?_
              intro v2 w9 hown hgrow _ _
              have hb4 := B7.out.grown hgrow (by have := HN0.out; have := B7.out.size; omega) (own_base O7.out)
              rw [← tcells_append] at hown
              obtain ⟨A4, c4, rfl, hl4, hc4, hn4, hm4, ha4⟩ := own_readsT hown
              have HS9 := Lib.hid (HS.out _ hb4)
              rw [HN0.out] at hb4 ha4
              have B4 := Lib.hid hb4
              have C4 := Lib.hid hc4
              have A4L := Lib.hid ha4
              clear hown hgrow hb4 hc4 ha4
              refine hK.out _ _ HS9.out (fun hHeld => ?_)
              try simp only [Act.put, List.getElem_toArray, List.getElem_cons_succ, List.getElem_cons_zero, List.setIfInBounds_toArray, List.set_cons_zero, List.set_cons_succ]
              refine wpAnyH_take (i := 23) (v := .pointer (some ⟨r, 0, none⟩)) rfl (by kernel_rfl) (by kernel_rfl) (by kernel_rfl) (fun _ _ _ h => h) (Or.inl ⟨by kernel_rfl, fun w _ => by go_simp⟩) hHeld ?_
              try simp only [Act.put, List.getElem_toArray, List.getElem_cons_succ, List.getElem_cons_zero, List.setIfInBounds_toArray, List.set_cons_zero, List.set_cons_succ]
              refine wpAnyH_take (i := 24) (v := .pointer (some ⟨r, 1, none⟩)) rfl (by kernel_rfl) (by kernel_rfl) (by kernel_rfl) (fun _ _ _ h => h) (Or.inl ⟨by kernel_rfl, fun w _ => by go_simp⟩) hHeld ?_
              try simp only [Act.put, List.getElem_toArray, List.getElem_cons_succ, List.getElem_cons_zero, List.setIfInBounds_toArray, List.set_cons_zero, List.set_cons_succ]
              have RE := RD.out.keep B4.out
              obtain ⟨j1, j2⟩ := RE.head.get 1 _ rfl
              refine wpAnyH_ready (rs := [25]) (by kernel_rfl) (by simp) ?_
              refine AllReadyH.cons rfl (fun K hK => ?_) AllReadyH.nil
              go_simp
              clear j1 j2 RE
              have hok2 := crash_step_ok HOK.out keep torn cut hc (k + 1) (by omega)
              have hT2 : CK ++ [(x.1, T)] = crashC keep torn cut D C (k + 1) := by
                show _ = crashC keep torn cut D C k ++ [_]
                rw [← HCK.out, HX.out, HCNE.out, ← HSL.out, ← HT.out]
              have hfin := RD.out.gone (D' := { D with blks := crashK keep torn cut D (k + 1) }) (C' := CK ++ [(x.1, T)]) B4.out C4.out A4L.out (by rw [hl4]; exact hn4) hm4 hok2 rfl (by show (crashK keep torn cut D (k + 1)).length = (crashK keep torn cut D k).length; rw [crashK_length, crashK_length]) rfl rfl (fun y hy => by
                rcases List.mem_append.1 hy with h | h
                · exact RD.out.cok y h
                · rw [List.mem_singleton.1 h]; exact HTL.out) (by
                have hag := RD.out.agree
                have h2 := crash_agree (C := CK) HOK.out keep torn cut hc k hlt (fun a ha => hag a (by show a < (crashK keep torn cut D k).length; rw [crashK_length]; exact ha))
                rw [HX.out, HCNE.out, ← HSL.out, ← HT.out] at h2
                intro a ha
                exact h2 a (by have : a < (crashK keep torn cut D k).length := ha; rwa [crashK_length] at this)) (by rw [List.length_append, List.length_singleton]; omega)
              rw [hl4] at hfin
              have R5 : Hid (∃ Ac cc, RefIn F (w9.setCell ⟨r, 1, none⟩ (.slice A4 (CK.length + 1) c4)) r Ac cc (some ⟨b, o, none⟩) wc { D with blks := crashK keep torn cut D (k + 1) } (crashC keep torn cut D C (k + 1))) := Lib.hid ⟨_, _, by rw [← hT2]; exact hfin⟩
              have T5 := Lib.hid ((TD.out.trans (Turn.of_below B4.out)).trans (Turn.set (F := fun b => b = r) (i := 1) w9 rfl (.slice A4 (CK.length + 1) c4)))
              have far : ∀ i, (w9.setCell ⟨r, 1, none⟩ (.slice A4 (CK.length + 1) c4)).cell? ⟨q6, i, none⟩ = w9.cell? ⟨q6, i, none⟩ := fun i => World.cell?_setCell_other w9 ⟨r, 1, none⟩ ⟨q6, i, none⟩ _ (fun e => by injection e with e; have := HQR.out; omega)
              refine hK.out _ _ ⟨(far _).trans HS9.out.1, (far _).trans HS9.out.2⟩ (fun hHeld => ?_)
              try simp only [Act.put, List.getElem_toArray, List.getElem_cons_succ, List.getElem_cons_zero, List.setIfInBounds_toArray, List.set_cons_zero, List.set_cons_succ]
              clear hfin hok2 far hT2
              refine wpAnyH_done (by kernel_rfl) ?_ _
              clear hHeld
              go_wp2_with fail
              go_roundw
              case rel => exact ⟨k + 1, by omega, by go_num, R5.out, T5.out⟩
              case measure => simp [intOf]; omega
            · have hcc := HC1.out _ BW.out
              go_simp
              clear hcc
              refine hK.out _ _ hHeld (fun hHeld => ?_)
              try simp only [Act.put, List.getElem_toArray, List.getElem_cons_succ, List.getElem_cons_zero, List.setIfInBounds_toArray, List.set_cons_zero, List.set_cons_succ]
              refine wpAnyH_ready (rs := [1]) (by kernel_rfl) (by simp) ?_
              refine AllReadyH.cons rfl (fun K hK => ?_) AllReadyH.nil
              go_simp
              have ba : Below W.heap.size W (W.alloc (.cells #[] 97)) := (Below.refl _ W).alloc (Nat.le_refl _) _
              have Ew4 := Lib.hid (own_empty_at W N0 (by have := HN0.out; have := BW.out.size; omega))
              have Bw4 := Lib.hid (BW.out.trans (ba.mono (by have := HN0.out; have := BW.out.size; omega)))
              obtain ⟨g0, hg0⟩ : ∃ y, y = W.heap.size := ⟨_, rfl⟩
              obtain ⟨w4, hw⟩ : ∃ V : World, V = W.alloc (.cells #[] 97) := ⟨_, rfl⟩
              rw [← hw] at Ew4 Bw4 ⊢
              rw [← hg0] at Ew4 ⊢
              clear hw ba hg0
              refine hK.out _ _ (HS.out _ Bw4.out) (fun hHeld => ?_)
              try simp only [Act.put, List.getElem_toArray, List.getElem_cons_succ, List.getElem_cons_zero, List.setIfInBounds_toArray, List.set_cons_zero, List.set_cons_succ]
              refine wpAnyH_ready (rs := [6]) (by kernel_rfl) (by simp) ?_
              refine AllReadyH.cons rfl (fun K hK => ?_) AllReadyH.nil
              rw [if_pos (show Region.wanted _ _ = true by kernel_rfl)]
              refine wp_appendC (.tmp 51) (.tmp 55) 49 rfl N0 97 (.agg #[.int .i64 0, .string ⟨#[]⟩]) 2 24 Try.underlying49 waitinfo rfl (by omega) (.slice (some ⟨g0, 0, none⟩) 0 0) 0 (tcells []) rfl Ew4.out Ac CK.length cc (tcells CK) rfl (tcells_length _) (HCM.out _ Bw4.out) (tcell_oneCell _) (by simp only [maxLen]; omega) (by omega) (by have := HN0.out; have := Bw4.out.size; omega) ?_
              intro v1 w5 hown hgrow _ _
              rw [show tcells [] ++ tcells CK = tcells CK from rfl] at hown
              try rw [Nat.zero_add] at hown
              have Bw5 := Lib.hid (Bw4.out.grown hgrow (by have := HN0.out; have := Bw4.out.size; omega) (own_base Ew4.out))
              have Ow5 := Lib.hid hown
              clear hown hgrow
              refine hK.out _ _ (HS.out _ Bw5.out) (fun hHeld => ?_)
              try simp only [Act.put, List.getElem_toArray, List.getElem_cons_succ, List.getElem_cons_zero, List.setIfInBounds_toArray, List.set_cons_zero, List.set_cons_succ]
              refine wpAnyH_ready (rs := [16]) (by kernel_rfl) (by simp) ?_
              refine AllReadyH.cons rfl (fun K hK => ?_) AllReadyH.nil
              go_simp
              go_at_call 44
              have hst := stands_any _ (show RefAt F w5 r _ CK from ⟨_, _, _, _, RD.out.keep (by have := Bw5.out; rwa [HN0.out] at this)⟩) x.1
              rw [← HSL.out] at hst
              refine hst.mono ?_
              rintro e w6 ⟨rfl, hb6⟩
              have B6 := Lib.hid (Bw5.out.trans (hb6.mono (by have := HN0.out; have := Bw5.out.size; omega)))
              have O6 := Lib.hid (own_keep Ow5.out hb6)
              clear hb6
              refine hK.out _ _ (HS.out _ B6.out) (fun hHeld => ?_)
              try simp only [Act.put, List.getElem_toArray, List.getElem_cons_succ, List.getElem_cons_zero, List.setIfInBounds_toArray, List.set_cons_zero, List.set_cons_succ]
              refine wpAnyH_take (i := 18) (v := .string ⟨(sl.drop cn).toArray⟩) rfl (by kernel_rfl) (by kernel_rfl) (by kernel_rfl) (fun _ _ _ h => h) (Or.inl ⟨by kernel_rfl, fun w h => by have he := E18.out w; go_simp⟩) hHeld ?_
              try simp only [Act.put, List.getElem_toArray, List.getElem_cons_succ, List.getElem_cons_zero, List.setIfInBounds_toArray, List.set_cons_zero, List.set_cons_succ]
              refine wpAnyH_take (i := 19) (v := .string ⟨T.toArray⟩) rfl (by kernel_rfl) (by kernel_rfl) (by kernel_rfl) (fun _ _ _ h => h) (Or.inl ⟨by kernel_rfl, fun w h => by have he := E19.out w; go_simp⟩) hHeld ?_
              try simp only [Act.put, List.getElem_toArray, List.getElem_cons_succ, List.getElem_cons_zero, List.setIfInBounds_toArray, List.set_cons_zero, List.set_cons_succ]
              refine wpAnyH_take (i := 20) (v := .agg #[.int .i64 (x.1 : Int), .string ⟨T.toArray⟩]) rfl (by kernel_rfl) (by kernel_rfl) (by kernel_rfl) (fun _ _ _ h => h) (Or.inl ⟨by kernel_rfl, fun w _ => by go_simp⟩) hHeld ?_
              try simp only [Act.put, List.getElem_toArray, List.getElem_cons_succ, List.getElem_cons_zero, List.setIfInBounds_toArray, List.set_cons_zero, List.set_cons_succ]
              refine wpAnyH_ready (rs := [21]) (by kernel_rfl) (by simp) ?_
              refine AllReadyH.cons rfl (fun K hK => ?_) AllReadyH.nil
              go_simp
              have ba : Below w6.heap.size w6 (w6.alloc (.cells #[.int .i64 (x.1 : Int), .string ⟨T.toArray⟩] 97)) := (Below.refl _ w6).alloc (Nat.le_refl _) _
              have X7 := Lib.hid (MemC.new w6 (tcells [(x.1, T)]) 97)
              have B7 := Lib.hid (B6.out.trans (ba.mono (by have := HN0.out; have := B6.out.size; omega)))
              have O7 := Lib.hid (O6.out.alloc (.cells #[.int .i64 (x.1 : Int), .string ⟨T.toArray⟩] 97))
              obtain ⟨gx, hgx⟩ : ∃ y, y = w6.heap.size := ⟨_, rfl⟩
              obtain ⟨w7, hw⟩ : ∃ V : World, V = w6.alloc (.cells #[.int .i64 (x.1 : Int), .string ⟨T.toArray⟩] 97) := ⟨_, rfl⟩
              rw [show (w6.alloc (.cells (tcells [(x.1, T)]).toArray 97)) = w7 by rw [hw]; rfl] at X7
              rw [← hw] at B7 O7 ⊢
              rw [← hgx] at X7 ⊢
              clear hw ba hgx
              refine hK.out _ _ (HS.out _ B7.out) (fun hHeld => ?_)
              try simp only [Act.put, List.getElem_toArray, List.getElem_cons_succ, List.getElem_cons_zero, List.setIfInBounds_toArray, List.set_cons_zero, List.set_cons_succ]
              refine wpAnyH_ready (rs := [22]) (by kernel_rfl) (by simp) ?_
              refine AllReadyH.cons rfl (fun K hK => ?_) AllReadyH.nil
              rw [if_pos (show Region.wanted _ _ = true by kernel_rfl)]
              refine wp_appendC (.tmp 56) (.tmp 71) 49 rfl N0 97 (.agg #[.int .i64 0, .string ⟨#[]⟩]) 2 24 Try.underlying49 waitinfo rfl (by omega) v1 CK.length (tcells CK) rfl O7.out (some ⟨gx, 0, none⟩) 1 1 (tcells [(x.1, T)]) rfl rfl X7.out.cells (tcell_oneCell _) (by simp only [maxLen]; omega) (by omega) (by have := HN0.out; have := B7.out.size; omega) ?_
              intro v2 w9 hown hgrow _ _
              have hb4 := B7.out.grown hgrow (by have := HN0.out; have := B7.out.size; omega) (own_base O7.out)
              rw [← tcells_append] at hown
              obtain ⟨A4, c4, rfl, hl4, hc4, hn4, hm4, ha4⟩ := own_readsT hown
              have HS9 := Lib.hid (HS.out _ hb4)
              rw [HN0.out] at hb4 ha4
              have B4 := Lib.hid hb4
              have C4 := Lib.hid hc4
              have A4L := Lib.hid ha4
              clear hown hgrow hb4 hc4 ha4
              refine hK.out _ _ HS9.out (fun hHeld => ?_)
              try simp only [Act.put, List.getElem_toArray, List.getElem_cons_succ, List.getElem_cons_zero, List.setIfInBounds_toArray, List.set_cons_zero, List.set_cons_succ]
              refine wpAnyH_take (i := 23) (v := .pointer (some ⟨r, 0, none⟩)) rfl (by kernel_rfl) (by kernel_rfl) (by kernel_rfl) (fun _ _ _ h => h) (Or.inl ⟨by kernel_rfl, fun w _ => by go_simp⟩) hHeld ?_
              try simp only [Act.put, List.getElem_toArray, List.getElem_cons_succ, List.getElem_cons_zero, List.setIfInBounds_toArray, List.set_cons_zero, List.set_cons_succ]
              refine wpAnyH_take (i := 24) (v := .pointer (some ⟨r, 1, none⟩)) rfl (by kernel_rfl) (by kernel_rfl) (by kernel_rfl) (fun _ _ _ h => h) (Or.inl ⟨by kernel_rfl, fun w _ => by go_simp⟩) hHeld ?_
              try simp only [Act.put, List.getElem_toArray, List.getElem_cons_succ, List.getElem_cons_zero, List.setIfInBounds_toArray, List.set_cons_zero, List.set_cons_succ]
              have RE := RD.out.keep B4.out
              obtain ⟨j1, j2⟩ := RE.head.get 1 _ rfl
              refine wpAnyH_ready (rs := [25]) (by kernel_rfl) (by simp) ?_
              refine AllReadyH.cons rfl (fun K hK => ?_) AllReadyH.nil
              go_simp
              clear j1 j2 RE
              have hok2 := crash_step_ok HOK.out keep torn cut hc (k + 1) (by omega)
              have hT2 : CK ++ [(x.1, T)] = crashC keep torn cut D C (k + 1) := by
                show _ = crashC keep torn cut D C k ++ [_]
                rw [← HCK.out, HX.out, HCNE.out, ← HSL.out, ← HT.out]
              have hfin := RD.out.gone (D' := { D with blks := crashK keep torn cut D (k + 1) }) (C' := CK ++ [(x.1, T)]) B4.out C4.out A4L.out (by rw [hl4]; exact hn4) hm4 hok2 rfl (by show (crashK keep torn cut D (k + 1)).length = (crashK keep torn cut D k).length; rw [crashK_length, crashK_length]) rfl rfl (fun y hy => by
                rcases List.mem_append.1 hy with h | h
                · exact RD.out.cok y h
                · rw [List.mem_singleton.1 h]; exact HTL.out) (by
                have hag := RD.out.agree
                have h2 := crash_agree (C := CK) HOK.out keep torn cut hc k hlt (fun a ha => hag a (by show a < (crashK keep torn cut D k).length; rw [crashK_length]; exact ha))
                rw [HX.out, HCNE.out, ← HSL.out, ← HT.out] at h2
                intro a ha
                exact h2 a (by have : a < (crashK keep torn cut D k).length := ha; rwa [crashK_length] at this)) (by rw [List.length_append, List.length_singleton]; omega)
              rw [hl4] at hfin
              have R5 : Hid (∃ Ac cc, RefIn F (w9.setCell ⟨r, 1, none⟩ (.slice A4 (CK.length + 1) c4)) r Ac cc (some ⟨b, o, none⟩) wc { D with blks := crashK keep torn cut D (k + 1) } (crashC keep torn cut D C (k + 1))) := Lib.hid ⟨_, _, by rw [← hT2]; exact hfin⟩
              have T5 := Lib.hid ((TD.out.trans (Turn.of_below B4.out)).trans (Turn.set (F := fun b => b = r) (i := 1) w9 rfl (.slice A4 (CK.length + 1) c4)))
              have far : ∀ i, (w9.setCell ⟨r, 1, none⟩ (.slice A4 (CK.length + 1) c4)).cell? ⟨q6, i, none⟩ = w9.cell? ⟨q6, i, none⟩ := fun i => World.cell?_setCell_other w9 ⟨r, 1, none⟩ ⟨q6, i, none⟩ _ (fun e => by injection e with e; have := HQR.out; omega)
              refine hK.out _ _ ⟨(far _).trans HS9.out.1, (far _).trans HS9.out.2⟩ (fun hHeld => ?_)
              try simp only [Act.put, List.getElem_toArray, List.getElem_cons_succ, List.getElem_cons_zero, List.setIfInBounds_toArray, List.set_cons_zero, List.set_cons_succ]
              clear hfin hok2 far hT2
              refine wpAnyH_done (by kernel_rfl) ?_ _
              clear hHeld
              go_wp2_with fail
              go_roundw
              case rel => exact ⟨k + 1, by omega, by go_num, R5.out, T5.out⟩
              case measure => simp [intOf]; omega
      · have hkl2 : ¬ (k : Int) < (kn : Int) := by omega
        have hgd : keep.getD k false = false := by rw [List.getD_eq_getElem?_getD, List.getElem?_eq_none (by rw [HKN.out]; omega)]; rfl
        rw [hgd] at HCN
        clear hgd
        by_cases htk : (k : Int) = torn
        · have hq1 : ((k : Int) == torn) = true := by rw [htk]; simp
          obtain ⟨cn, hcn⟩ : ∃ cn : Nat, cn = cut := ⟨_, rfl⟩
          have HCNE : Hid (cutN keep torn cut k = cn) := Lib.hid (by rw [hcn, HCN.out]; rw [if_pos htk])
          have hcn128 : cn ≤ 128 := by omega
          have HCV := Lib.hid hcn
          clear htk HCN
          rw [← hcn] at g2
          clear hcn
          go_upto_region 12 with fail
          obtain ⟨W, hW⟩ : ∃ V : World, V = w2.drew := ⟨_, rfl⟩
          have bd : Below w2.heap.size w2 W := by rw [hW]; exact (Below.refl w2.heap.size w2).drew
          have RD := Lib.hid (R2.out.keep bd)
          have TD := Lib.hid (T2.out.trans (Turn.of_below bd))
          have XD := Lib.hid (X2.out.keep bd)
          have HS : Hid (∀ w', Below W.heap.size W w' → w'.cell? ⟨q6, 0, none⟩ = some (.int .i64 (x.1 : Int)) ∧ w'.cell? ⟨q6, 1, none⟩ = some (.string ⟨x.2.toArray⟩)) := Lib.hid fun w' hb => ⟨((XD.out.keep hb).get 0 _ rfl).1, ((XD.out.keep hb).get 1 _ rfl).1⟩
          refine wp_region_held_drew (S := fun w' => w'.cell? ⟨q6, 0, none⟩ = some (.int .i64 (x.1 : Int)) ∧ w'.cell? ⟨q6, 1, none⟩ = some (.string ⟨x.2.toArray⟩)) (by kernel_rfl) (by rw [← hW]; exact HS.out _ (Below.refl _ _)) (fun hHeld => ?_)
          rw [← hW] at hHeld ⊢
          have HC1 : Hid (∀ w', Below W.heap.size W w' → w'.cell? ⟨r, 1, none⟩ = some (.slice Ac CK.length cc)) := Lib.hid fun w' hb => ((RD.out.keep hb).head.get 1 _ rfl).1
          have HCM : Hid (∀ w', Below W.heap.size W w' → Cells w' Ac (tcells CK)) := Lib.hid fun w' hb => (RD.out.keep hb).came
          have BW := Lib.hid (Below.refl W.heap.size W)
          obtain ⟨N0, hN0⟩ : ∃ N, N = W.heap.size := ⟨_, rfl⟩
          rw [← hN0] at HS HC1 HCM BW
          have HN0 := Lib.hid hN0
          obtain ⟨sl, hsl⟩ : ∃ sl, sl = standsL CK x.1 := ⟨_, rfl⟩
          have HSL := Lib.hid hsl
          have hslen : sl.length = 128 := by rw [hsl]; exact standsL_length RD.out.cok _
          obtain ⟨T, hT⟩ : ∃ T, T = x.2.take cn ++ sl.drop cn := ⟨_, rfl⟩
          have HT := Lib.hid hT
          have HTL : Hid (T.length = 128) := Lib.hid (by rw [hT, List.length_append, List.length_take, List.length_drop, HXL.out, hslen]; omega)
          have E12 : Hid (∀ w, _) := Lib.hid (fun w => cut_to w x.2 cn (by rw [HXL.out]; exact hcn128))
          have E18 : Hid (∀ w, _) := Lib.hid (fun w => cut_from w sl cn (by rw [hslen]; exact hcn128))
          have E19 : Hid (∀ w, (Op.stringOp .add ⟨(x.2.take cn).toArray⟩ ⟨(sl.drop cn).toArray⟩).run Try.prog w = .ok (.string ⟨T.toArray⟩) w) := Lib.hid (fun w => by rw [hT]; exact run_string_add_lists w _ _ (by rw [List.length_take, HXL.out]; omega) (by rw [List.length_drop, hslen]; omega))
          clear hW bd R2 T2 X2 M2 C2 g0 g1 g2 hN0 hsl hT hslen
          refine wpAnyH_take (i := 0) (v := .pointer (some ⟨r, 0, none⟩)) rfl (by kernel_rfl) (by kernel_rfl) (by kernel_rfl) (fun _ _ _ h => h) (Or.inl ⟨by kernel_rfl, fun w _ => by go_simp⟩) hHeld ?_
          try simp only [Act.put, List.getElem_toArray, List.getElem_cons_succ, List.getElem_cons_zero, List.setIfInBounds_toArray, List.set_cons_zero, List.set_cons_succ]
          refine wpAnyH_take (i := 2) (v := .pointer (some ⟨r, 0, none⟩)) rfl (by kernel_rfl) (by kernel_rfl) (by kernel_rfl) (fun _ _ _ h => h) (Or.inl ⟨by kernel_rfl, fun w _ => by go_simp⟩) hHeld ?_
          try simp only [Act.put, List.getElem_toArray, List.getElem_cons_succ, List.getElem_cons_zero, List.setIfInBounds_toArray, List.set_cons_zero, List.set_cons_succ]
          refine wpAnyH_take (i := 3) (v := .pointer (some ⟨r, 0, none⟩)) rfl (by kernel_rfl) (by kernel_rfl) (by kernel_rfl) (fun _ _ _ h => h) (Or.inl ⟨by kernel_rfl, fun w _ => by go_simp⟩) hHeld ?_
          try simp only [Act.put, List.getElem_toArray, List.getElem_cons_succ, List.getElem_cons_zero, List.setIfInBounds_toArray, List.set_cons_zero, List.set_cons_succ]
          refine wpAnyH_take (i := 4) (v := .pointer (some ⟨r, 1, none⟩)) rfl (by kernel_rfl) (by kernel_rfl) (by kernel_rfl) (fun _ _ _ h => h) (Or.inl ⟨by kernel_rfl, fun w _ => by go_simp⟩) hHeld ?_
          try simp only [Act.put, List.getElem_toArray, List.getElem_cons_succ, List.getElem_cons_zero, List.setIfInBounds_toArray, List.set_cons_zero, List.set_cons_succ]
          refine wpAnyH_take (i := 7) (v := .pointer (some ⟨q6, 0, none⟩)) rfl (by kernel_rfl) (by kernel_rfl) (by kernel_rfl) (fun _ _ _ h => h) (Or.inl ⟨by kernel_rfl, fun w _ => by go_simp⟩) hHeld ?_
          try simp only [Act.put, List.getElem_toArray, List.getElem_cons_succ, List.getElem_cons_zero, List.setIfInBounds_toArray, List.set_cons_zero, List.set_cons_succ]
          refine wpAnyH_take (i := 8) (v := .int .i64 (x.1 : Int)) rfl (by kernel_rfl) (by kernel_rfl) (by kernel_rfl) (fun _ _ _ h => h) (Or.inl ⟨by kernel_rfl, fun w h => by have hc := h.1; go_simp⟩) hHeld ?_
          try simp only [Act.put, List.getElem_toArray, List.getElem_cons_succ, List.getElem_cons_zero, List.setIfInBounds_toArray, List.set_cons_zero, List.set_cons_succ]
          refine wpAnyH_take (i := 9) (v := .pointer (some ⟨q6, 1, none⟩)) rfl (by kernel_rfl) (by kernel_rfl) (by kernel_rfl) (fun _ _ _ h => h) (Or.inl ⟨by kernel_rfl, fun w _ => by go_simp⟩) hHeld ?_
          try simp only [Act.put, List.getElem_toArray, List.getElem_cons_succ, List.getElem_cons_zero, List.setIfInBounds_toArray, List.set_cons_zero, List.set_cons_succ]
          refine wpAnyH_take (i := 10) (v := .string ⟨x.2.toArray⟩) rfl (by kernel_rfl) (by kernel_rfl) (by kernel_rfl) (fun _ _ _ h => h) (Or.inl ⟨by kernel_rfl, fun w h => by have hc := h.2; go_simp⟩) hHeld ?_
          try simp only [Act.put, List.getElem_toArray, List.getElem_cons_succ, List.getElem_cons_zero, List.setIfInBounds_toArray, List.set_cons_zero, List.set_cons_succ]
          refine wpAnyH_take (i := 11) (v := .int .i64 (cn : Int)) rfl (by kernel_rfl) (by kernel_rfl) (by kernel_rfl) (fun _ _ _ h => h) (Or.inl ⟨by kernel_rfl, fun w _ => by go_simp⟩) hHeld ?_
          try simp only [Act.put, List.getElem_toArray, List.getElem_cons_succ, List.getElem_cons_zero, List.setIfInBounds_toArray, List.set_cons_zero, List.set_cons_succ]
          refine wpAnyH_take (i := 12) (v := .string ⟨(x.2.take cn).toArray⟩) rfl (by kernel_rfl) (by kernel_rfl) (by kernel_rfl) (fun _ _ _ h => h) (Or.inl ⟨by kernel_rfl, fun w h => by have he := E12.out w; go_simp⟩) hHeld ?_
          try simp only [Act.put, List.getElem_toArray, List.getElem_cons_succ, List.getElem_cons_zero, List.setIfInBounds_toArray, List.set_cons_zero, List.set_cons_succ]
          refine wpAnyH_take (i := 13) (v := .pointer (some ⟨r, 0, none⟩)) rfl (by kernel_rfl) (by kernel_rfl) (by kernel_rfl) (fun _ _ _ h => h) (Or.inl ⟨by kernel_rfl, fun w _ => by go_simp⟩) hHeld ?_
          try simp only [Act.put, List.getElem_toArray, List.getElem_cons_succ, List.getElem_cons_zero, List.setIfInBounds_toArray, List.set_cons_zero, List.set_cons_succ]
          refine wpAnyH_take (i := 14) (v := .pointer (some ⟨q6, 0, none⟩)) rfl (by kernel_rfl) (by kernel_rfl) (by kernel_rfl) (fun _ _ _ h => h) (Or.inl ⟨by kernel_rfl, fun w _ => by go_simp⟩) hHeld ?_
          try simp only [Act.put, List.getElem_toArray, List.getElem_cons_succ, List.getElem_cons_zero, List.setIfInBounds_toArray, List.set_cons_zero, List.set_cons_succ]
          refine wpAnyH_take (i := 15) (v := .int .i64 (x.1 : Int)) rfl (by kernel_rfl) (by kernel_rfl) (by kernel_rfl) (fun _ _ _ h => h) (Or.inl ⟨by kernel_rfl, fun w h => by have hc := h.1; go_simp⟩) hHeld ?_
          try simp only [Act.put, List.getElem_toArray, List.getElem_cons_succ, List.getElem_cons_zero, List.setIfInBounds_toArray, List.set_cons_zero, List.set_cons_succ]
          refine wpAnyH_take (i := 17) (v := .int .i64 (cn : Int)) rfl (by kernel_rfl) (by kernel_rfl) (by kernel_rfl) (fun _ _ _ h => h) (Or.inl ⟨by kernel_rfl, fun w _ => by go_simp⟩) hHeld ?_
          try simp only [Act.put, List.getElem_toArray, List.getElem_cons_succ, List.getElem_cons_zero, List.setIfInBounds_toArray, List.set_cons_zero, List.set_cons_succ]
          refine wpAnyH_ready (rs := [1, 5]) (by kernel_rfl) (by simp) ?_
          refine AllReadyH.cons rfl (fun K hK => ?_) (AllReadyH.cons rfl (fun K hK => ?_) AllReadyH.nil)
          · go_simp
            have ba : Below W.heap.size W (W.alloc (.cells #[] 97)) := (Below.refl _ W).alloc (Nat.le_refl _) _
            have Ew3 := Lib.hid (own_empty_at W N0 (by have := HN0.out; have := BW.out.size; omega))
            have Bw3 := Lib.hid (BW.out.trans (ba.mono (by have := HN0.out; have := BW.out.size; omega)))
            obtain ⟨g0, hg0⟩ : ∃ y, y = W.heap.size := ⟨_, rfl⟩
            obtain ⟨w3, hw⟩ : ∃ V : World, V = W.alloc (.cells #[] 97) := ⟨_, rfl⟩
            rw [← hw] at Ew3 Bw3 ⊢
            rw [← hg0] at Ew3 ⊢
            clear hw ba hg0
            refine hK.out _ _ (HS.out _ Bw3.out) (fun hHeld => ?_)
            try simp only [Act.put, List.getElem_toArray, List.getElem_cons_succ, List.getElem_cons_zero, List.setIfInBounds_toArray, List.set_cons_zero, List.set_cons_succ]
            refine wpAnyH_ready (rs := [5]) (by kernel_rfl) (by simp) ?_
            refine AllReadyH.cons rfl (fun K hK => ?_) AllReadyH.nil
            have hcc := HC1.out _ Bw3.out
            go_simp
            clear hcc
            refine hK.out _ _ hHeld (fun hHeld => ?_)
            try simp only [Act.put, List.getElem_toArray, List.getElem_cons_succ, List.getElem_cons_zero, List.setIfInBounds_toArray, List.set_cons_zero, List.set_cons_succ]
            refine wpAnyH_ready (rs := [6]) (by kernel_rfl) (by simp) ?_
            refine AllReadyH.cons rfl (fun K hK => ?_) AllReadyH.nil
            rw [if_pos (show Region.wanted _ _ = true by kernel_rfl)]
            refine wp_appendC (.tmp 51) (.tmp 55) 49 rfl N0 97 (.agg #[.int .i64 0, .string ⟨#[]⟩]) 2 24 Try.underlying49 waitinfo rfl (by omega) (.slice (some ⟨g0, 0, none⟩) 0 0) 0 (tcells []) rfl Ew3.out Ac CK.length cc (tcells CK) rfl (tcells_length _) (HCM.out _ Bw3.out) (tcell_oneCell _) (by simp only [maxLen]; omega) (by omega) (by have := HN0.out; have := Bw3.out.size; omega) ?_
            intro v1 w5 hown hgrow _ _
            rw [show tcells [] ++ tcells CK = tcells CK from rfl] at hown
            try rw [Nat.zero_add] at hown
            have Bw5 := Lib.hid (Bw3.out.grown hgrow (by have := HN0.out; have := Bw3.out.size; omega) (own_base Ew3.out))
            have Ow5 := Lib.hid hown
            clear hown hgrow
            refine hK.out _ _ (HS.out _ Bw5.out) (fun hHeld => ?_)
            try simp only [Act.put, List.getElem_toArray, List.getElem_cons_succ, List.getElem_cons_zero, List.setIfInBounds_toArray, List.set_cons_zero, List.set_cons_succ]
            refine wpAnyH_ready (rs := [16]) (by kernel_rfl) (by simp) ?_
            refine AllReadyH.cons rfl (fun K hK => ?_) AllReadyH.nil
            go_simp
            go_at_call 44
            have hst := stands_any _ (show RefAt F w5 r _ CK from ⟨_, _, _, _, RD.out.keep (by have := Bw5.out; rwa [HN0.out] at this)⟩) x.1
            rw [← HSL.out] at hst
            refine hst.mono ?_
            rintro e w6 ⟨rfl, hb6⟩
            have B6 := Lib.hid (Bw5.out.trans (hb6.mono (by have := HN0.out; have := Bw5.out.size; omega)))
            have O6 := Lib.hid (own_keep Ow5.out hb6)
            clear hb6
            refine hK.out _ _ (HS.out _ B6.out) (fun hHeld => ?_)
            try simp only [Act.put, List.getElem_toArray, List.getElem_cons_succ, List.getElem_cons_zero, List.setIfInBounds_toArray, List.set_cons_zero, List.set_cons_succ]
            refine wpAnyH_take (i := 18) (v := .string ⟨(sl.drop cn).toArray⟩) rfl (by kernel_rfl) (by kernel_rfl) (by kernel_rfl) (fun _ _ _ h => h) (Or.inl ⟨by kernel_rfl, fun w h => by have he := E18.out w; go_simp⟩) hHeld ?_
            try simp only [Act.put, List.getElem_toArray, List.getElem_cons_succ, List.getElem_cons_zero, List.setIfInBounds_toArray, List.set_cons_zero, List.set_cons_succ]
            refine wpAnyH_take (i := 19) (v := .string ⟨T.toArray⟩) rfl (by kernel_rfl) (by kernel_rfl) (by kernel_rfl) (fun _ _ _ h => h) (Or.inl ⟨by kernel_rfl, fun w h => by have he := E19.out w; go_simp⟩) hHeld ?_
            try simp only [Act.put, List.getElem_toArray, List.getElem_cons_succ, List.getElem_cons_zero, List.setIfInBounds_toArray, List.set_cons_zero, List.set_cons_succ]
            refine wpAnyH_take (i := 20) (v := .agg #[.int .i64 (x.1 : Int), .string ⟨T.toArray⟩]) rfl (by kernel_rfl) (by kernel_rfl) (by kernel_rfl) (fun _ _ _ h => h) (Or.inl ⟨by kernel_rfl, fun w _ => by go_simp⟩) hHeld ?_
            try simp only [Act.put, List.getElem_toArray, List.getElem_cons_succ, List.getElem_cons_zero, List.setIfInBounds_toArray, List.set_cons_zero, List.set_cons_succ]
            refine wpAnyH_ready (rs := [21]) (by kernel_rfl) (by simp) ?_
            refine AllReadyH.cons rfl (fun K hK => ?_) AllReadyH.nil
            go_simp
            have ba : Below w6.heap.size w6 (w6.alloc (.cells #[.int .i64 (x.1 : Int), .string ⟨T.toArray⟩] 97)) := (Below.refl _ w6).alloc (Nat.le_refl _) _
            have X7 := Lib.hid (MemC.new w6 (tcells [(x.1, T)]) 97)
            have B7 := Lib.hid (B6.out.trans (ba.mono (by have := HN0.out; have := B6.out.size; omega)))
            have O7 := Lib.hid (O6.out.alloc (.cells #[.int .i64 (x.1 : Int), .string ⟨T.toArray⟩] 97))
            obtain ⟨gx, hgx⟩ : ∃ y, y = w6.heap.size := ⟨_, rfl⟩
            obtain ⟨w7, hw⟩ : ∃ V : World, V = w6.alloc (.cells #[.int .i64 (x.1 : Int), .string ⟨T.toArray⟩] 97) := ⟨_, rfl⟩
            rw [show (w6.alloc (.cells (tcells [(x.1, T)]).toArray 97)) = w7 by rw [hw]; rfl] at X7
            rw [← hw] at B7 O7 ⊢
            rw [← hgx] at X7 ⊢
            clear hw ba hgx
            refine hK.out _ _ (HS.out _ B7.out) (fun hHeld => ?_)
            try simp only [Act.put, List.getElem_toArray, List.getElem_cons_succ, List.getElem_cons_zero, List.setIfInBounds_toArray, List.set_cons_zero, List.set_cons_succ]
            refine wpAnyH_ready (rs := [22]) (by kernel_rfl) (by simp) ?_
            refine AllReadyH.cons rfl (fun K hK => ?_) AllReadyH.nil
            rw [if_pos (show Region.wanted _ _ = true by kernel_rfl)]
            refine wp_appendC (.tmp 56) (.tmp 71) 49 rfl N0 97 (.agg #[.int .i64 0, .string ⟨#[]⟩]) 2 24 Try.underlying49 waitinfo rfl (by omega) v1 CK.length (tcells CK) rfl O7.out (some ⟨gx, 0, none⟩) 1 1 (tcells [(x.1, T)]) rfl rfl X7.out.cells (tcell_oneCell _) (by simp only [maxLen]; omega) (by omega) (by have := HN0.out; have := B7.out.size; omega) ?_
            intro v2 w9 hown hgrow _ _
            have hb4 := B7.out.grown hgrow (by have := HN0.out; have := B7.out.size; omega) (own_base O7.out)
            rw [← tcells_append] at hown
            obtain ⟨A4, c4, rfl, hl4, hc4, hn4, hm4, ha4⟩ := own_readsT hown
            have HS9 := Lib.hid (HS.out _ hb4)
            rw [HN0.out] at hb4 ha4
            have B4 := Lib.hid hb4
            have C4 := Lib.hid hc4
            have A4L := Lib.hid ha4
            clear hown hgrow hb4 hc4 ha4
            refine hK.out _ _ HS9.out (fun hHeld => ?_)
            try simp only [Act.put, List.getElem_toArray, List.getElem_cons_succ, List.getElem_cons_zero, List.setIfInBounds_toArray, List.set_cons_zero, List.set_cons_succ]
            refine wpAnyH_take (i := 23) (v := .pointer (some ⟨r, 0, none⟩)) rfl (by kernel_rfl) (by kernel_rfl) (by kernel_rfl) (fun _ _ _ h => h) (Or.inl ⟨by kernel_rfl, fun w _ => by go_simp⟩) hHeld ?_
            try simp only [Act.put, List.getElem_toArray, List.getElem_cons_succ, List.getElem_cons_zero, List.setIfInBounds_toArray, List.set_cons_zero, List.set_cons_succ]
            refine wpAnyH_take (i := 24) (v := .pointer (some ⟨r, 1, none⟩)) rfl (by kernel_rfl) (by kernel_rfl) (by kernel_rfl) (fun _ _ _ h => h) (Or.inl ⟨by kernel_rfl, fun w _ => by go_simp⟩) hHeld ?_
            try simp only [Act.put, List.getElem_toArray, List.getElem_cons_succ, List.getElem_cons_zero, List.setIfInBounds_toArray, List.set_cons_zero, List.set_cons_succ]
            have RE := RD.out.keep B4.out
            obtain ⟨j1, j2⟩ := RE.head.get 1 _ rfl
            refine wpAnyH_ready (rs := [25]) (by kernel_rfl) (by simp) ?_
            refine AllReadyH.cons rfl (fun K hK => ?_) AllReadyH.nil
            go_simp
            clear j1 j2 RE
            have hok2 := crash_step_ok HOK.out keep torn cut hc (k + 1) (by omega)
            have hT2 : CK ++ [(x.1, T)] = crashC keep torn cut D C (k + 1) := by
              show _ = crashC keep torn cut D C k ++ [_]
              rw [← HCK.out, HX.out, HCNE.out, ← HSL.out, ← HT.out]
            have hfin := RD.out.gone (D' := { D with blks := crashK keep torn cut D (k + 1) }) (C' := CK ++ [(x.1, T)]) B4.out C4.out A4L.out (by rw [hl4]; exact hn4) hm4 hok2 rfl (by show (crashK keep torn cut D (k + 1)).length = (crashK keep torn cut D k).length; rw [crashK_length, crashK_length]) rfl rfl (fun y hy => by
              rcases List.mem_append.1 hy with h | h
              · exact RD.out.cok y h
              · rw [List.mem_singleton.1 h]; exact HTL.out) (by
              have hag := RD.out.agree
              have h2 := crash_agree (C := CK) HOK.out keep torn cut hc k hlt (fun a ha => hag a (by show a < (crashK keep torn cut D k).length; rw [crashK_length]; exact ha))
              rw [HX.out, HCNE.out, ← HSL.out, ← HT.out] at h2
              intro a ha
              exact h2 a (by have : a < (crashK keep torn cut D k).length := ha; rwa [crashK_length] at this)) (by rw [List.length_append, List.length_singleton]; omega)
            rw [hl4] at hfin
            have R5 : Hid (∃ Ac cc, RefIn F (w9.setCell ⟨r, 1, none⟩ (.slice A4 (CK.length + 1) c4)) r Ac cc (some ⟨b, o, none⟩) wc { D with blks := crashK keep torn cut D (k + 1) } (crashC keep torn cut D C (k + 1))) := Lib.hid ⟨_, _, by rw [← hT2]; exact hfin⟩
            have T5 := Lib.hid ((TD.out.trans (Turn.of_below B4.out)).trans (Turn.set (F := fun b => b = r) (i := 1) w9 rfl (.slice A4 (CK.length + 1) c4)))
            have far : ∀ i, (w9.setCell ⟨r, 1, none⟩ (.slice A4 (CK.length + 1) c4)).cell? ⟨q6, i, none⟩ = w9.cell? ⟨q6, i, none⟩ := fun i => World.cell?_setCell_other w9 ⟨r, 1, none⟩ ⟨q6, i, none⟩ _ (fun e => by injection e with e; have := HQR.out; omega)
            refine hK.out _ _ ⟨(far _).trans HS9.out.1, (far _).trans HS9.out.2⟩ (fun hHeld => ?_)
            try simp only [Act.put, List.getElem_toArray, List.getElem_cons_succ, List.getElem_cons_zero, List.setIfInBounds_toArray, List.set_cons_zero, List.set_cons_succ]
            clear hfin hok2 far hT2
            refine wpAnyH_done (by kernel_rfl) ?_ _
            clear hHeld
            go_wp2_with fail
            go_roundw
            case rel => exact ⟨k + 1, by omega, by go_num, R5.out, T5.out⟩
            case measure => simp [intOf]; omega
          · have hcc := HC1.out _ BW.out
            go_simp
            clear hcc
            refine hK.out _ _ hHeld (fun hHeld => ?_)
            try simp only [Act.put, List.getElem_toArray, List.getElem_cons_succ, List.getElem_cons_zero, List.setIfInBounds_toArray, List.set_cons_zero, List.set_cons_succ]
            refine wpAnyH_ready (rs := [1]) (by kernel_rfl) (by simp) ?_
            refine AllReadyH.cons rfl (fun K hK => ?_) AllReadyH.nil
            go_simp
            have ba : Below W.heap.size W (W.alloc (.cells #[] 97)) := (Below.refl _ W).alloc (Nat.le_refl _) _
            have Ew4 := Lib.hid (own_empty_at W N0 (by have := HN0.out; have := BW.out.size; omega))
            have Bw4 := Lib.hid (BW.out.trans (ba.mono (by have := HN0.out; have := BW.out.size; omega)))
            obtain ⟨g0, hg0⟩ : ∃ y, y = W.heap.size := ⟨_, rfl⟩
            obtain ⟨w4, hw⟩ : ∃ V : World, V = W.alloc (.cells #[] 97) := ⟨_, rfl⟩
            rw [← hw] at Ew4 Bw4 ⊢
            rw [← hg0] at Ew4 ⊢
            clear hw ba hg0
            refine hK.out _ _ (HS.out _ Bw4.out) (fun hHeld => ?_)
            try simp only [Act.put, List.getElem_toArray, List.getElem_cons_succ, List.getElem_cons_zero, List.setIfInBounds_toArray, List.set_cons_zero, List.set_cons_succ]
            refine wpAnyH_ready (rs := [6]) (by kernel_rfl) (by simp) ?_
            refine AllReadyH.cons rfl (fun K hK => ?_) AllReadyH.nil
            rw [if_pos (show Region.wanted _ _ = true by kernel_rfl)]
            refine wp_appendC (.tmp 51) (.tmp 55) 49 rfl N0 97 (.agg #[.int .i64 0, .string ⟨#[]⟩]) 2 24 Try.underlying49 waitinfo rfl (by omega) (.slice (some ⟨g0, 0, none⟩) 0 0) 0 (tcells []) rfl Ew4.out Ac CK.length cc (tcells CK) rfl (tcells_length _) (HCM.out _ Bw4.out) (tcell_oneCell _) (by simp only [maxLen]; omega) (by omega) (by have := HN0.out; have := Bw4.out.size; omega) ?_
            intro v1 w5 hown hgrow _ _
            rw [show tcells [] ++ tcells CK = tcells CK from rfl] at hown
            try rw [Nat.zero_add] at hown
            have Bw5 := Lib.hid (Bw4.out.grown hgrow (by have := HN0.out; have := Bw4.out.size; omega) (own_base Ew4.out))
            have Ow5 := Lib.hid hown
            clear hown hgrow
            refine hK.out _ _ (HS.out _ Bw5.out) (fun hHeld => ?_)
            try simp only [Act.put, List.getElem_toArray, List.getElem_cons_succ, List.getElem_cons_zero, List.setIfInBounds_toArray, List.set_cons_zero, List.set_cons_succ]
            refine wpAnyH_ready (rs := [16]) (by kernel_rfl) (by simp) ?_
            refine AllReadyH.cons rfl (fun K hK => ?_) AllReadyH.nil
            go_simp
            go_at_call 44
            have hst := stands_any _ (show RefAt F w5 r _ CK from ⟨_, _, _, _, RD.out.keep (by have := Bw5.out; rwa [HN0.out] at this)⟩) x.1
            rw [← HSL.out] at hst
            refine hst.mono ?_
            rintro e w6 ⟨rfl, hb6⟩
            have B6 := Lib.hid (Bw5.out.trans (hb6.mono (by have := HN0.out; have := Bw5.out.size; omega)))
            have O6 := Lib.hid (own_keep Ow5.out hb6)
            clear hb6
            refine hK.out _ _ (HS.out _ B6.out) (fun hHeld => ?_)
            try simp only [Act.put, List.getElem_toArray, List.getElem_cons_succ, List.getElem_cons_zero, List.setIfInBounds_toArray, List.set_cons_zero, List.set_cons_succ]
            refine wpAnyH_take (i := 18) (v := .string ⟨(sl.drop cn).toArray⟩) rfl (by kernel_rfl) (by kernel_rfl) (by kernel_rfl) (fun _ _ _ h => h) (Or.inl ⟨by kernel_rfl, fun w h => by have he := E18.out w; go_simp⟩) hHeld ?_
            try simp only [Act.put, List.getElem_toArray, List.getElem_cons_succ, List.getElem_cons_zero, List.setIfInBounds_toArray, List.set_cons_zero, List.set_cons_succ]
            refine wpAnyH_take (i := 19) (v := .string ⟨T.toArray⟩) rfl (by kernel_rfl) (by kernel_rfl) (by kernel_rfl) (fun _ _ _ h => h) (Or.inl ⟨by kernel_rfl, fun w h => by have he := E19.out w; go_simp⟩) hHeld ?_
            try simp only [Act.put, List.getElem_toArray, List.getElem_cons_succ, List.getElem_cons_zero, List.setIfInBounds_toArray, List.set_cons_zero, List.set_cons_succ]
            refine wpAnyH_take (i := 20) (v := .agg #[.int .i64 (x.1 : Int), .string ⟨T.toArray⟩]) rfl (by kernel_rfl) (by kernel_rfl) (by kernel_rfl) (fun _ _ _ h => h) (Or.inl ⟨by kernel_rfl, fun w _ => by go_simp⟩) hHeld ?_
            try simp only [Act.put, List.getElem_toArray, List.getElem_cons_succ, List.getElem_cons_zero, List.setIfInBounds_toArray, List.set_cons_zero, List.set_cons_succ]
            refine wpAnyH_ready (rs := [21]) (by kernel_rfl) (by simp) ?_
            refine AllReadyH.cons rfl (fun K hK => ?_) AllReadyH.nil
            go_simp
            have ba : Below w6.heap.size w6 (w6.alloc (.cells #[.int .i64 (x.1 : Int), .string ⟨T.toArray⟩] 97)) := (Below.refl _ w6).alloc (Nat.le_refl _) _
            have X7 := Lib.hid (MemC.new w6 (tcells [(x.1, T)]) 97)
            have B7 := Lib.hid (B6.out.trans (ba.mono (by have := HN0.out; have := B6.out.size; omega)))
            have O7 := Lib.hid (O6.out.alloc (.cells #[.int .i64 (x.1 : Int), .string ⟨T.toArray⟩] 97))
            obtain ⟨gx, hgx⟩ : ∃ y, y = w6.heap.size := ⟨_, rfl⟩
            obtain ⟨w7, hw⟩ : ∃ V : World, V = w6.alloc (.cells #[.int .i64 (x.1 : Int), .string ⟨T.toArray⟩] 97) := ⟨_, rfl⟩
            rw [show (w6.alloc (.cells (tcells [(x.1, T)]).toArray 97)) = w7 by rw [hw]; rfl] at X7
            rw [← hw] at B7 O7 ⊢
            rw [← hgx] at X7 ⊢
            clear hw ba hgx
            refine hK.out _ _ (HS.out _ B7.out) (fun hHeld => ?_)
            try simp only [Act.put, List.getElem_toArray, List.getElem_cons_succ, List.getElem_cons_zero, List.setIfInBounds_toArray, List.set_cons_zero, List.set_cons_succ]
            refine wpAnyH_ready (rs := [22]) (by kernel_rfl) (by simp) ?_
            refine AllReadyH.cons rfl (fun K hK => ?_) AllReadyH.nil
            rw [if_pos (show Region.wanted _ _ = true by kernel_rfl)]
            refine wp_appendC (.tmp 56) (.tmp 71) 49 rfl N0 97 (.agg #[.int .i64 0, .string ⟨#[]⟩]) 2 24 Try.underlying49 waitinfo rfl (by omega) v1 CK.length (tcells CK) rfl O7.out (some ⟨gx, 0, none⟩) 1 1 (tcells [(x.1, T)]) rfl rfl X7.out.cells (tcell_oneCell _) (by simp only [maxLen]; omega) (by omega) (by have := HN0.out; have := B7.out.size; omega) ?_
            intro v2 w9 hown hgrow _ _
            have hb4 := B7.out.grown hgrow (by have := HN0.out; have := B7.out.size; omega) (own_base O7.out)
            rw [← tcells_append] at hown
            obtain ⟨A4, c4, rfl, hl4, hc4, hn4, hm4, ha4⟩ := own_readsT hown
            have HS9 := Lib.hid (HS.out _ hb4)
            rw [HN0.out] at hb4 ha4
            have B4 := Lib.hid hb4
            have C4 := Lib.hid hc4
            have A4L := Lib.hid ha4
            clear hown hgrow hb4 hc4 ha4
            refine hK.out _ _ HS9.out (fun hHeld => ?_)
            try simp only [Act.put, List.getElem_toArray, List.getElem_cons_succ, List.getElem_cons_zero, List.setIfInBounds_toArray, List.set_cons_zero, List.set_cons_succ]
            refine wpAnyH_take (i := 23) (v := .pointer (some ⟨r, 0, none⟩)) rfl (by kernel_rfl) (by kernel_rfl) (by kernel_rfl) (fun _ _ _ h => h) (Or.inl ⟨by kernel_rfl, fun w _ => by go_simp⟩) hHeld ?_
            try simp only [Act.put, List.getElem_toArray, List.getElem_cons_succ, List.getElem_cons_zero, List.setIfInBounds_toArray, List.set_cons_zero, List.set_cons_succ]
            refine wpAnyH_take (i := 24) (v := .pointer (some ⟨r, 1, none⟩)) rfl (by kernel_rfl) (by kernel_rfl) (by kernel_rfl) (fun _ _ _ h => h) (Or.inl ⟨by kernel_rfl, fun w _ => by go_simp⟩) hHeld ?_
            try simp only [Act.put, List.getElem_toArray, List.getElem_cons_succ, List.getElem_cons_zero, List.setIfInBounds_toArray, List.set_cons_zero, List.set_cons_succ]
            have RE := RD.out.keep B4.out
            obtain ⟨j1, j2⟩ := RE.head.get 1 _ rfl
            refine wpAnyH_ready (rs := [25]) (by kernel_rfl) (by simp) ?_
            refine AllReadyH.cons rfl (fun K hK => ?_) AllReadyH.nil
            go_simp
            clear j1 j2 RE
            have hok2 := crash_step_ok HOK.out keep torn cut hc (k + 1) (by omega)
            have hT2 : CK ++ [(x.1, T)] = crashC keep torn cut D C (k + 1) := by
              show _ = crashC keep torn cut D C k ++ [_]
              rw [← HCK.out, HX.out, HCNE.out, ← HSL.out, ← HT.out]
            have hfin := RD.out.gone (D' := { D with blks := crashK keep torn cut D (k + 1) }) (C' := CK ++ [(x.1, T)]) B4.out C4.out A4L.out (by rw [hl4]; exact hn4) hm4 hok2 rfl (by show (crashK keep torn cut D (k + 1)).length = (crashK keep torn cut D k).length; rw [crashK_length, crashK_length]) rfl rfl (fun y hy => by
              rcases List.mem_append.1 hy with h | h
              · exact RD.out.cok y h
              · rw [List.mem_singleton.1 h]; exact HTL.out) (by
              have hag := RD.out.agree
              have h2 := crash_agree (C := CK) HOK.out keep torn cut hc k hlt (fun a ha => hag a (by show a < (crashK keep torn cut D k).length; rw [crashK_length]; exact ha))
              rw [HX.out, HCNE.out, ← HSL.out, ← HT.out] at h2
              intro a ha
              exact h2 a (by have : a < (crashK keep torn cut D k).length := ha; rwa [crashK_length] at this)) (by rw [List.length_append, List.length_singleton]; omega)
            rw [hl4] at hfin
            have R5 : Hid (∃ Ac cc, RefIn F (w9.setCell ⟨r, 1, none⟩ (.slice A4 (CK.length + 1) c4)) r Ac cc (some ⟨b, o, none⟩) wc { D with blks := crashK keep torn cut D (k + 1) } (crashC keep torn cut D C (k + 1))) := Lib.hid ⟨_, _, by rw [← hT2]; exact hfin⟩
            have T5 := Lib.hid ((TD.out.trans (Turn.of_below B4.out)).trans (Turn.set (F := fun b => b = r) (i := 1) w9 rfl (.slice A4 (CK.length + 1) c4)))
            have far : ∀ i, (w9.setCell ⟨r, 1, none⟩ (.slice A4 (CK.length + 1) c4)).cell? ⟨q6, i, none⟩ = w9.cell? ⟨q6, i, none⟩ := fun i => World.cell?_setCell_other w9 ⟨r, 1, none⟩ ⟨q6, i, none⟩ _ (fun e => by injection e with e; have := HQR.out; omega)
            refine hK.out _ _ ⟨(far _).trans HS9.out.1, (far _).trans HS9.out.2⟩ (fun hHeld => ?_)
            try simp only [Act.put, List.getElem_toArray, List.getElem_cons_succ, List.getElem_cons_zero, List.setIfInBounds_toArray, List.set_cons_zero, List.set_cons_succ]
            clear hfin hok2 far hT2
            refine wpAnyH_done (by kernel_rfl) ?_ _
            clear hHeld
            go_wp2_with fail
            go_roundw
            case rel => exact ⟨k + 1, by omega, by go_num, R5.out, T5.out⟩
            case measure => simp [intOf]; omega
        · have hq1 : ((k : Int) == torn) = false := by simpa using htk
          obtain ⟨cn, hcn⟩ : ∃ cn : Nat, cn = 0 := ⟨_, rfl⟩
          have HCNE : Hid (cutN keep torn cut k = cn) := Lib.hid (by rw [hcn, HCN.out]; rw [if_neg htk]; rw [if_neg (by decide)])
          have hcn128 : cn ≤ 128 := by omega
          have HCV := Lib.hid hcn
          clear htk HCN
          clear hcn
          go_upto_region 12 with fail
          have hv : Value.int .i64 0 = Value.int .i64 (cn : Int) := by rw [HCV.out]; rfl
          conv in (occs := 2) (Value.int IntKind.i64 0) => rw [hv]
          clear hv
          obtain ⟨W, hW⟩ : ∃ V : World, V = w2.drew := ⟨_, rfl⟩
          have bd : Below w2.heap.size w2 W := by rw [hW]; exact (Below.refl w2.heap.size w2).drew
          have RD := Lib.hid (R2.out.keep bd)
          have TD := Lib.hid (T2.out.trans (Turn.of_below bd))
          have XD := Lib.hid (X2.out.keep bd)
          have HS : Hid (∀ w', Below W.heap.size W w' → w'.cell? ⟨q6, 0, none⟩ = some (.int .i64 (x.1 : Int)) ∧ w'.cell? ⟨q6, 1, none⟩ = some (.string ⟨x.2.toArray⟩)) := Lib.hid fun w' hb => ⟨((XD.out.keep hb).get 0 _ rfl).1, ((XD.out.keep hb).get 1 _ rfl).1⟩
          refine wp_region_held_drew (S := fun w' => w'.cell? ⟨q6, 0, none⟩ = some (.int .i64 (x.1 : Int)) ∧ w'.cell? ⟨q6, 1, none⟩ = some (.string ⟨x.2.toArray⟩)) (by kernel_rfl) (by rw [← hW]; exact HS.out _ (Below.refl _ _)) (fun hHeld => ?_)
          rw [← hW] at hHeld ⊢
          have HC1 : Hid (∀ w', Below W.heap.size W w' → w'.cell? ⟨r, 1, none⟩ = some (.slice Ac CK.length cc)) := Lib.hid fun w' hb => ((RD.out.keep hb).head.get 1 _ rfl).1
          have HCM : Hid (∀ w', Below W.heap.size W w' → Cells w' Ac (tcells CK)) := Lib.hid fun w' hb => (RD.out.keep hb).came
          have BW := Lib.hid (Below.refl W.heap.size W)
          obtain ⟨N0, hN0⟩ : ∃ N, N = W.heap.size := ⟨_, rfl⟩
          rw [← hN0] at HS HC1 HCM BW
          have HN0 := Lib.hid hN0
          obtain ⟨sl, hsl⟩ : ∃ sl, sl = standsL CK x.1 := ⟨_, rfl⟩
          have HSL := Lib.hid hsl
          have hslen : sl.length = 128 := by rw [hsl]; exact standsL_length RD.out.cok _
          obtain ⟨T, hT⟩ : ∃ T, T = x.2.take cn ++ sl.drop cn := ⟨_, rfl⟩
          have HT := Lib.hid hT
          have HTL : Hid (T.length = 128) := Lib.hid (by rw [hT, List.length_append, List.length_take, List.length_drop, HXL.out, hslen]; omega)
          have E12 : Hid (∀ w, _) := Lib.hid (fun w => cut_to w x.2 cn (by rw [HXL.out]; exact hcn128))
          have E18 : Hid (∀ w, _) := Lib.hid (fun w => cut_from w sl cn (by rw [hslen]; exact hcn128))
          have E19 : Hid (∀ w, (Op.stringOp .add ⟨(x.2.take cn).toArray⟩ ⟨(sl.drop cn).toArray⟩).run Try.prog w = .ok (.string ⟨T.toArray⟩) w) := Lib.hid (fun w => by rw [hT]; exact run_string_add_lists w _ _ (by rw [List.length_take, HXL.out]; omega) (by rw [List.length_drop, hslen]; omega))
          clear hW bd R2 T2 X2 M2 C2 g0 g1 g2 hN0 hsl hT hslen
          refine wpAnyH_take (i := 0) (v := .pointer (some ⟨r, 0, none⟩)) rfl (by kernel_rfl) (by kernel_rfl) (by kernel_rfl) (fun _ _ _ h => h) (Or.inl ⟨by kernel_rfl, fun w _ => by go_simp⟩) hHeld ?_
          try simp only [Act.put, List.getElem_toArray, List.getElem_cons_succ, List.getElem_cons_zero, List.setIfInBounds_toArray, List.set_cons_zero, List.set_cons_succ]
          refine wpAnyH_take (i := 2) (v := .pointer (some ⟨r, 0, none⟩)) rfl (by kernel_rfl) (by kernel_rfl) (by kernel_rfl) (fun _ _ _ h => h) (Or.inl ⟨by kernel_rfl, fun w _ => by go_simp⟩) hHeld ?_
          try simp only [Act.put, List.getElem_toArray, List.getElem_cons_succ, List.getElem_cons_zero, List.setIfInBounds_toArray, List.set_cons_zero, List.set_cons_succ]
          refine wpAnyH_take (i := 3) (v := .pointer (some ⟨r, 0, none⟩)) rfl (by kernel_rfl) (by kernel_rfl) (by kernel_rfl) (fun _ _ _ h => h) (Or.inl ⟨by kernel_rfl, fun w _ => by go_simp⟩) hHeld ?_
          try simp only [Act.put, List.getElem_toArray, List.getElem_cons_succ, List.getElem_cons_zero, List.setIfInBounds_toArray, List.set_cons_zero, List.set_cons_succ]
          refine wpAnyH_take (i := 4) (v := .pointer (some ⟨r, 1, none⟩)) rfl (by kernel_rfl) (by kernel_rfl) (by kernel_rfl) (fun _ _ _ h => h) (Or.inl ⟨by kernel_rfl, fun w _ => by go_simp⟩) hHeld ?_
          try simp only [Act.put, List.getElem_toArray, List.getElem_cons_succ, List.getElem_cons_zero, List.setIfInBounds_toArray, List.set_cons_zero, List.set_cons_succ]
          refine wpAnyH_take (i := 7) (v := .pointer (some ⟨q6, 0, none⟩)) rfl (by kernel_rfl) (by kernel_rfl) (by kernel_rfl) (fun _ _ _ h => h) (Or.inl ⟨by kernel_rfl, fun w _ => by go_simp⟩) hHeld ?_
          try simp only [Act.put, List.getElem_toArray, List.getElem_cons_succ, List.getElem_cons_zero, List.setIfInBounds_toArray, List.set_cons_zero, List.set_cons_succ]
          refine wpAnyH_take (i := 8) (v := .int .i64 (x.1 : Int)) rfl (by kernel_rfl) (by kernel_rfl) (by kernel_rfl) (fun _ _ _ h => h) (Or.inl ⟨by kernel_rfl, fun w h => by have hc := h.1; go_simp⟩) hHeld ?_
          try simp only [Act.put, List.getElem_toArray, List.getElem_cons_succ, List.getElem_cons_zero, List.setIfInBounds_toArray, List.set_cons_zero, List.set_cons_succ]
          refine wpAnyH_take (i := 9) (v := .pointer (some ⟨q6, 1, none⟩)) rfl (by kernel_rfl) (by kernel_rfl) (by kernel_rfl) (fun _ _ _ h => h) (Or.inl ⟨by kernel_rfl, fun w _ => by go_simp⟩) hHeld ?_
          try simp only [Act.put, List.getElem_toArray, List.getElem_cons_succ, List.getElem_cons_zero, List.setIfInBounds_toArray, List.set_cons_zero, List.set_cons_succ]
          refine wpAnyH_take (i := 10) (v := .string ⟨x.2.toArray⟩) rfl (by kernel_rfl) (by kernel_rfl) (by kernel_rfl) (fun _ _ _ h => h) (Or.inl ⟨by kernel_rfl, fun w h => by have hc := h.2; go_simp⟩) hHeld ?_
          try simp only [Act.put, List.getElem_toArray, List.getElem_cons_succ, List.getElem_cons_zero, List.setIfInBounds_toArray, List.set_cons_zero, List.set_cons_succ]
          refine wpAnyH_take (i := 11) (v := .int .i64 (cn : Int)) rfl (by kernel_rfl) (by kernel_rfl) (by kernel_rfl) (fun _ _ _ h => h) (Or.inl ⟨by kernel_rfl, fun w _ => by go_simp⟩) hHeld ?_
          try simp only [Act.put, List.getElem_toArray, List.getElem_cons_succ, List.getElem_cons_zero, List.setIfInBounds_toArray, List.set_cons_zero, List.set_cons_succ]
          refine wpAnyH_take (i := 12) (v := .string ⟨(x.2.take cn).toArray⟩) rfl (by kernel_rfl) (by kernel_rfl) (by kernel_rfl) (fun _ _ _ h => h) (Or.inl ⟨by kernel_rfl, fun w h => by have he := E12.out w; go_simp⟩) hHeld ?_
          try simp only [Act.put, List.getElem_toArray, List.getElem_cons_succ, List.getElem_cons_zero, List.setIfInBounds_toArray, List.set_cons_zero, List.set_cons_succ]
          refine wpAnyH_take (i := 13) (v := .pointer (some ⟨r, 0, none⟩)) rfl (by kernel_rfl) (by kernel_rfl) (by kernel_rfl) (fun _ _ _ h => h) (Or.inl ⟨by kernel_rfl, fun w _ => by go_simp⟩) hHeld ?_
          try simp only [Act.put, List.getElem_toArray, List.getElem_cons_succ, List.getElem_cons_zero, List.setIfInBounds_toArray, List.set_cons_zero, List.set_cons_succ]
          refine wpAnyH_take (i := 14) (v := .pointer (some ⟨q6, 0, none⟩)) rfl (by kernel_rfl) (by kernel_rfl) (by kernel_rfl) (fun _ _ _ h => h) (Or.inl ⟨by kernel_rfl, fun w _ => by go_simp⟩) hHeld ?_
          try simp only [Act.put, List.getElem_toArray, List.getElem_cons_succ, List.getElem_cons_zero, List.setIfInBounds_toArray, List.set_cons_zero, List.set_cons_succ]
          refine wpAnyH_take (i := 15) (v := .int .i64 (x.1 : Int)) rfl (by kernel_rfl) (by kernel_rfl) (by kernel_rfl) (fun _ _ _ h => h) (Or.inl ⟨by kernel_rfl, fun w h => by have hc := h.1; go_simp⟩) hHeld ?_
          try simp only [Act.put, List.getElem_toArray, List.getElem_cons_succ, List.getElem_cons_zero, List.setIfInBounds_toArray, List.set_cons_zero, List.set_cons_succ]
          refine wpAnyH_take (i := 17) (v := .int .i64 (cn : Int)) rfl (by kernel_rfl) (by kernel_rfl) (by kernel_rfl) (fun _ _ _ h => h) (Or.inl ⟨by kernel_rfl, fun w _ => by go_simp⟩) hHeld ?_
          try simp only [Act.put, List.getElem_toArray, List.getElem_cons_succ, List.getElem_cons_zero, List.setIfInBounds_toArray, List.set_cons_zero, List.set_cons_succ]
          refine wpAnyH_ready (rs := [1, 5]) (by kernel_rfl) (by simp) ?_
          refine AllReadyH.cons rfl (fun K hK => ?_) (AllReadyH.cons rfl (fun K hK => ?_) AllReadyH.nil)
          · go_simp
            have ba : Below W.heap.size W (W.alloc (.cells #[] 97)) := (Below.refl _ W).alloc (Nat.le_refl _) _
            have Ew3 := Lib.hid (own_empty_at W N0 (by have := HN0.out; have := BW.out.size; omega))
            have Bw3 := Lib.hid (BW.out.trans (ba.mono (by have := HN0.out; have := BW.out.size; omega)))
            obtain ⟨g0, hg0⟩ : ∃ y, y = W.heap.size := ⟨_, rfl⟩
            obtain ⟨w3, hw⟩ : ∃ V : World, V = W.alloc (.cells #[] 97) := ⟨_, rfl⟩
            rw [← hw] at Ew3 Bw3 ⊢
            rw [← hg0] at Ew3 ⊢
            clear hw ba hg0
            refine hK.out _ _ (HS.out _ Bw3.out) (fun hHeld => ?_)
            try simp only [Act.put, List.getElem_toArray, List.getElem_cons_succ, List.getElem_cons_zero, List.setIfInBounds_toArray, List.set_cons_zero, List.set_cons_succ]
            refine wpAnyH_ready (rs := [5]) (by kernel_rfl) (by simp) ?_
            refine AllReadyH.cons rfl (fun K hK => ?_) AllReadyH.nil
            have hcc := HC1.out _ Bw3.out
            go_simp
            clear hcc
            refine hK.out _ _ hHeld (fun hHeld => ?_)
            try simp only [Act.put, List.getElem_toArray, List.getElem_cons_succ, List.getElem_cons_zero, List.setIfInBounds_toArray, List.set_cons_zero, List.set_cons_succ]
            refine wpAnyH_ready (rs := [6]) (by kernel_rfl) (by simp) ?_
            refine AllReadyH.cons rfl (fun K hK => ?_) AllReadyH.nil
            rw [if_pos (show Region.wanted _ _ = true by kernel_rfl)]
            refine wp_appendC (.tmp 51) (.tmp 55) 49 rfl N0 97 (.agg #[.int .i64 0, .string ⟨#[]⟩]) 2 24 Try.underlying49 waitinfo rfl (by omega) (.slice (some ⟨g0, 0, none⟩) 0 0) 0 (tcells []) rfl Ew3.out Ac CK.length cc (tcells CK) rfl (tcells_length _) (HCM.out _ Bw3.out) (tcell_oneCell _) (by simp only [maxLen]; omega) (by omega) (by have := HN0.out; have := Bw3.out.size; omega) ?_
            intro v1 w5 hown hgrow _ _
            rw [show tcells [] ++ tcells CK = tcells CK from rfl] at hown
            try rw [Nat.zero_add] at hown
            have Bw5 := Lib.hid (Bw3.out.grown hgrow (by have := HN0.out; have := Bw3.out.size; omega) (own_base Ew3.out))
            have Ow5 := Lib.hid hown
            clear hown hgrow
            refine hK.out _ _ (HS.out _ Bw5.out) (fun hHeld => ?_)
            try simp only [Act.put, List.getElem_toArray, List.getElem_cons_succ, List.getElem_cons_zero, List.setIfInBounds_toArray, List.set_cons_zero, List.set_cons_succ]
            refine wpAnyH_ready (rs := [16]) (by kernel_rfl) (by simp) ?_
            refine AllReadyH.cons rfl (fun K hK => ?_) AllReadyH.nil
            go_simp
            go_at_call 44
            have hst := stands_any _ (show RefAt F w5 r _ CK from ⟨_, _, _, _, RD.out.keep (by have := Bw5.out; rwa [HN0.out] at this)⟩) x.1
            rw [← HSL.out] at hst
            refine hst.mono ?_
            rintro e w6 ⟨rfl, hb6⟩
            have B6 := Lib.hid (Bw5.out.trans (hb6.mono (by have := HN0.out; have := Bw5.out.size; omega)))
            have O6 := Lib.hid (own_keep Ow5.out hb6)
            clear hb6
            refine hK.out _ _ (HS.out _ B6.out) (fun hHeld => ?_)
            try simp only [Act.put, List.getElem_toArray, List.getElem_cons_succ, List.getElem_cons_zero, List.setIfInBounds_toArray, List.set_cons_zero, List.set_cons_succ]
            refine wpAnyH_take (i := 18) (v := .string ⟨(sl.drop cn).toArray⟩) rfl (by kernel_rfl) (by kernel_rfl) (by kernel_rfl) (fun _ _ _ h => h) (Or.inl ⟨by kernel_rfl, fun w h => by have he := E18.out w; go_simp⟩) hHeld ?_
            try simp only [Act.put, List.getElem_toArray, List.getElem_cons_succ, List.getElem_cons_zero, List.setIfInBounds_toArray, List.set_cons_zero, List.set_cons_succ]
            refine wpAnyH_take (i := 19) (v := .string ⟨T.toArray⟩) rfl (by kernel_rfl) (by kernel_rfl) (by kernel_rfl) (fun _ _ _ h => h) (Or.inl ⟨by kernel_rfl, fun w h => by have he := E19.out w; go_simp⟩) hHeld ?_
            try simp only [Act.put, List.getElem_toArray, List.getElem_cons_succ, List.getElem_cons_zero, List.setIfInBounds_toArray, List.set_cons_zero, List.set_cons_succ]
            refine wpAnyH_take (i := 20) (v := .agg #[.int .i64 (x.1 : Int), .string ⟨T.toArray⟩]) rfl (by kernel_rfl) (by kernel_rfl) (by kernel_rfl) (fun _ _ _ h => h) (Or.inl ⟨by kernel_rfl, fun w _ => by go_simp⟩) hHeld ?_
            try simp only [Act.put, List.getElem_toArray, List.getElem_cons_succ, List.getElem_cons_zero, List.setIfInBounds_toArray, List.set_cons_zero, List.set_cons_succ]
            refine wpAnyH_ready (rs := [21]) (by kernel_rfl) (by simp) ?_
            refine AllReadyH.cons rfl (fun K hK => ?_) AllReadyH.nil
            go_simp
            have ba : Below w6.heap.size w6 (w6.alloc (.cells #[.int .i64 (x.1 : Int), .string ⟨T.toArray⟩] 97)) := (Below.refl _ w6).alloc (Nat.le_refl _) _
            have X7 := Lib.hid (MemC.new w6 (tcells [(x.1, T)]) 97)
            have B7 := Lib.hid (B6.out.trans (ba.mono (by have := HN0.out; have := B6.out.size; omega)))
            have O7 := Lib.hid (O6.out.alloc (.cells #[.int .i64 (x.1 : Int), .string ⟨T.toArray⟩] 97))
            obtain ⟨gx, hgx⟩ : ∃ y, y = w6.heap.size := ⟨_, rfl⟩
            obtain ⟨w7, hw⟩ : ∃ V : World, V = w6.alloc (.cells #[.int .i64 (x.1 : Int), .string ⟨T.toArray⟩] 97) := ⟨_, rfl⟩
            rw [show (w6.alloc (.cells (tcells [(x.1, T)]).toArray 97)) = w7 by rw [hw]; rfl] at X7
            rw [← hw] at B7 O7 ⊢
            rw [← hgx] at X7 ⊢
            clear hw ba hgx
            refine hK.out _ _ (HS.out _ B7.out) (fun hHeld => ?_)
            try simp only [Act.put, List.getElem_toArray, List.getElem_cons_succ, List.getElem_cons_zero, List.setIfInBounds_toArray, List.set_cons_zero, List.set_cons_succ]
            refine wpAnyH_ready (rs := [22]) (by kernel_rfl) (by simp) ?_
            refine AllReadyH.cons rfl (fun K hK => ?_) AllReadyH.nil
            rw [if_pos (show Region.wanted _ _ = true by kernel_rfl)]
            refine wp_appendC (.tmp 56) (.tmp 71) 49 rfl N0 97 (.agg #[.int .i64 0, .string ⟨#[]⟩]) 2 24 Try.underlying49 waitinfo rfl (by omega) v1 CK.length (tcells CK) rfl O7.out (some ⟨gx, 0, none⟩) 1 1 (tcells [(x.1, T)]) rfl rfl X7.out.cells (tcell_oneCell _) (by simp only [maxLen]; omega) (by omega) (by have := HN0.out; have := B7.out.size; omega) ?_
            intro v2 w9 hown hgrow _ _
            have hb4 := B7.out.grown hgrow (by have := HN0.out; have := B7.out.size; omega) (own_base O7.out)
            rw [← tcells_append] at hown
            obtain ⟨A4, c4, rfl, hl4, hc4, hn4, hm4, ha4⟩ := own_readsT hown
            have HS9 := Lib.hid (HS.out _ hb4)
            rw [HN0.out] at hb4 ha4
            have B4 := Lib.hid hb4
            have C4 := Lib.hid hc4
            have A4L := Lib.hid ha4
            clear hown hgrow hb4 hc4 ha4
            refine hK.out _ _ HS9.out (fun hHeld => ?_)
            try simp only [Act.put, List.getElem_toArray, List.getElem_cons_succ, List.getElem_cons_zero, List.setIfInBounds_toArray, List.set_cons_zero, List.set_cons_succ]
            refine wpAnyH_take (i := 23) (v := .pointer (some ⟨r, 0, none⟩)) rfl (by kernel_rfl) (by kernel_rfl) (by kernel_rfl) (fun _ _ _ h => h) (Or.inl ⟨by kernel_rfl, fun w _ => by go_simp⟩) hHeld ?_
            try simp only [Act.put, List.getElem_toArray, List.getElem_cons_succ, List.getElem_cons_zero, List.setIfInBounds_toArray, List.set_cons_zero, List.set_cons_succ]
            refine wpAnyH_take (i := 24) (v := .pointer (some ⟨r, 1, none⟩)) rfl (by kernel_rfl) (by kernel_rfl) (by kernel_rfl) (fun _ _ _ h => h) (Or.inl ⟨by kernel_rfl, fun w _ => by go_simp⟩) hHeld ?_
            try simp only [Act.put, List.getElem_toArray, List.getElem_cons_succ, List.getElem_cons_zero, List.setIfInBounds_toArray, List.set_cons_zero, List.set_cons_succ]
            have RE := RD.out.keep B4.out
            obtain ⟨j1, j2⟩ := RE.head.get 1 _ rfl
            refine wpAnyH_ready (rs := [25]) (by kernel_rfl) (by simp) ?_
            refine AllReadyH.cons rfl (fun K hK => ?_) AllReadyH.nil
            go_simp
            clear j1 j2 RE
            have hok2 := crash_step_ok HOK.out keep torn cut hc (k + 1) (by omega)
            have hT2 : CK ++ [(x.1, T)] = crashC keep torn cut D C (k + 1) := by
              show _ = crashC keep torn cut D C k ++ [_]
              rw [← HCK.out, HX.out, HCNE.out, ← HSL.out, ← HT.out]
            have hfin := RD.out.gone (D' := { D with blks := crashK keep torn cut D (k + 1) }) (C' := CK ++ [(x.1, T)]) B4.out C4.out A4L.out (by rw [hl4]; exact hn4) hm4 hok2 rfl (by show (crashK keep torn cut D (k + 1)).length = (crashK keep torn cut D k).length; rw [crashK_length, crashK_length]) rfl rfl (fun y hy => by
              rcases List.mem_append.1 hy with h | h
              · exact RD.out.cok y h
              · rw [List.mem_singleton.1 h]; exact HTL.out) (by
              have hag := RD.out.agree
              have h2 := crash_agree (C := CK) HOK.out keep torn cut hc k hlt (fun a ha => hag a (by show a < (crashK keep torn cut D k).length; rw [crashK_length]; exact ha))
              rw [HX.out, HCNE.out, ← HSL.out, ← HT.out] at h2
              intro a ha
              exact h2 a (by have : a < (crashK keep torn cut D k).length := ha; rwa [crashK_length] at this)) (by rw [List.length_append, List.length_singleton]; omega)
            rw [hl4] at hfin
            have R5 : Hid (∃ Ac cc, RefIn F (w9.setCell ⟨r, 1, none⟩ (.slice A4 (CK.length + 1) c4)) r Ac cc (some ⟨b, o, none⟩) wc { D with blks := crashK keep torn cut D (k + 1) } (crashC keep torn cut D C (k + 1))) := Lib.hid ⟨_, _, by rw [← hT2]; exact hfin⟩
            have T5 := Lib.hid ((TD.out.trans (Turn.of_below B4.out)).trans (Turn.set (F := fun b => b = r) (i := 1) w9 rfl (.slice A4 (CK.length + 1) c4)))
            have far : ∀ i, (w9.setCell ⟨r, 1, none⟩ (.slice A4 (CK.length + 1) c4)).cell? ⟨q6, i, none⟩ = w9.cell? ⟨q6, i, none⟩ := fun i => World.cell?_setCell_other w9 ⟨r, 1, none⟩ ⟨q6, i, none⟩ _ (fun e => by injection e with e; have := HQR.out; omega)
            refine hK.out _ _ ⟨(far _).trans HS9.out.1, (far _).trans HS9.out.2⟩ (fun hHeld => ?_)
            try simp only [Act.put, List.getElem_toArray, List.getElem_cons_succ, List.getElem_cons_zero, List.setIfInBounds_toArray, List.set_cons_zero, List.set_cons_succ]
            clear hfin hok2 far hT2
            refine wpAnyH_done (by kernel_rfl) ?_ _
            clear hHeld
            go_wp2_with fail
            go_roundw
            case rel => exact ⟨k + 1, by omega, by go_num, R5.out, T5.out⟩
            case measure => simp [intOf]; omega
          · have hcc := HC1.out _ BW.out
            go_simp
            clear hcc
            refine hK.out _ _ hHeld (fun hHeld => ?_)
            try simp only [Act.put, List.getElem_toArray, List.getElem_cons_succ, List.getElem_cons_zero, List.setIfInBounds_toArray, List.set_cons_zero, List.set_cons_succ]
            refine wpAnyH_ready (rs := [1]) (by kernel_rfl) (by simp) ?_
            refine AllReadyH.cons rfl (fun K hK => ?_) AllReadyH.nil
            go_simp
            have ba : Below W.heap.size W (W.alloc (.cells #[] 97)) := (Below.refl _ W).alloc (Nat.le_refl _) _
            have Ew4 := Lib.hid (own_empty_at W N0 (by have := HN0.out; have := BW.out.size; omega))
            have Bw4 := Lib.hid (BW.out.trans (ba.mono (by have := HN0.out; have := BW.out.size; omega)))
            obtain ⟨g0, hg0⟩ : ∃ y, y = W.heap.size := ⟨_, rfl⟩
            obtain ⟨w4, hw⟩ : ∃ V : World, V = W.alloc (.cells #[] 97) := ⟨_, rfl⟩
            rw [← hw] at Ew4 Bw4 ⊢
            rw [← hg0] at Ew4 ⊢
            clear hw ba hg0
            refine hK.out _ _ (HS.out _ Bw4.out) (fun hHeld => ?_)
            try simp only [Act.put, List.getElem_toArray, List.getElem_cons_succ, List.getElem_cons_zero, List.setIfInBounds_toArray, List.set_cons_zero, List.set_cons_succ]
            refine wpAnyH_ready (rs := [6]) (by kernel_rfl) (by simp) ?_
            refine AllReadyH.cons rfl (fun K hK => ?_) AllReadyH.nil
            rw [if_pos (show Region.wanted _ _ = true by kernel_rfl)]
            refine wp_appendC (.tmp 51) (.tmp 55) 49 rfl N0 97 (.agg #[.int .i64 0, .string ⟨#[]⟩]) 2 24 Try.underlying49 waitinfo rfl (by omega) (.slice (some ⟨g0, 0, none⟩) 0 0) 0 (tcells []) rfl Ew4.out Ac CK.length cc (tcells CK) rfl (tcells_length _) (HCM.out _ Bw4.out) (tcell_oneCell _) (by simp only [maxLen]; omega) (by omega) (by have := HN0.out; have := Bw4.out.size; omega) ?_
            intro v1 w5 hown hgrow _ _
            rw [show tcells [] ++ tcells CK = tcells CK from rfl] at hown
            try rw [Nat.zero_add] at hown
            have Bw5 := Lib.hid (Bw4.out.grown hgrow (by have := HN0.out; have := Bw4.out.size; omega) (own_base Ew4.out))
            have Ow5 := Lib.hid hown
            clear hown hgrow
            refine hK.out _ _ (HS.out _ Bw5.out) (fun hHeld => ?_)
            try simp only [Act.put, List.getElem_toArray, List.getElem_cons_succ, List.getElem_cons_zero, List.setIfInBounds_toArray, List.set_cons_zero, List.set_cons_succ]
            refine wpAnyH_ready (rs := [16]) (by kernel_rfl) (by simp) ?_
            refine AllReadyH.cons rfl (fun K hK => ?_) AllReadyH.nil
            go_simp
            go_at_call 44
            have hst := stands_any _ (show RefAt F w5 r _ CK from ⟨_, _, _, _, RD.out.keep (by have := Bw5.out; rwa [HN0.out] at this)⟩) x.1
            rw [← HSL.out] at hst
            refine hst.mono ?_
            rintro e w6 ⟨rfl, hb6⟩
            have B6 := Lib.hid (Bw5.out.trans (hb6.mono (by have := HN0.out; have := Bw5.out.size; omega)))
            have O6 := Lib.hid (own_keep Ow5.out hb6)
            clear hb6
            refine hK.out _ _ (HS.out _ B6.out) (fun hHeld => ?_)
            try simp only [Act.put, List.getElem_toArray, List.getElem_cons_succ, List.getElem_cons_zero, List.setIfInBounds_toArray, List.set_cons_zero, List.set_cons_succ]
            refine wpAnyH_take (i := 18) (v := .string ⟨(sl.drop cn).toArray⟩) rfl (by kernel_rfl) (by kernel_rfl) (by kernel_rfl) (fun _ _ _ h => h) (Or.inl ⟨by kernel_rfl, fun w h => by have he := E18.out w; go_simp⟩) hHeld ?_
            try simp only [Act.put, List.getElem_toArray, List.getElem_cons_succ, List.getElem_cons_zero, List.setIfInBounds_toArray, List.set_cons_zero, List.set_cons_succ]
            refine wpAnyH_take (i := 19) (v := .string ⟨T.toArray⟩) rfl (by kernel_rfl) (by kernel_rfl) (by kernel_rfl) (fun _ _ _ h => h) (Or.inl ⟨by kernel_rfl, fun w h => by have he := E19.out w; go_simp⟩) hHeld ?_
            try simp only [Act.put, List.getElem_toArray, List.getElem_cons_succ, List.getElem_cons_zero, List.setIfInBounds_toArray, List.set_cons_zero, List.set_cons_succ]
            refine wpAnyH_take (i := 20) (v := .agg #[.int .i64 (x.1 : Int), .string ⟨T.toArray⟩]) rfl (by kernel_rfl) (by kernel_rfl) (by kernel_rfl) (fun _ _ _ h => h) (Or.inl ⟨by kernel_rfl, fun w _ => by go_simp⟩) hHeld ?_
            try simp only [Act.put, List.getElem_toArray, List.getElem_cons_succ, List.getElem_cons_zero, List.setIfInBounds_toArray, List.set_cons_zero, List.set_cons_succ]
            refine wpAnyH_ready (rs := [21]) (by kernel_rfl) (by simp) ?_
            refine AllReadyH.cons rfl (fun K hK => ?_) AllReadyH.nil
            go_simp
            have ba : Below w6.heap.size w6 (w6.alloc (.cells #[.int .i64 (x.1 : Int), .string ⟨T.toArray⟩] 97)) := (Below.refl _ w6).alloc (Nat.le_refl _) _
            have X7 := Lib.hid (MemC.new w6 (tcells [(x.1, T)]) 97)
            have B7 := Lib.hid (B6.out.trans (ba.mono (by have := HN0.out; have := B6.out.size; omega)))
            have O7 := Lib.hid (O6.out.alloc (.cells #[.int .i64 (x.1 : Int), .string ⟨T.toArray⟩] 97))
            obtain ⟨gx, hgx⟩ : ∃ y, y = w6.heap.size := ⟨_, rfl⟩
            obtain ⟨w7, hw⟩ : ∃ V : World, V = w6.alloc (.cells #[.int .i64 (x.1 : Int), .string ⟨T.toArray⟩] 97) := ⟨_, rfl⟩
            rw [show (w6.alloc (.cells (tcells [(x.1, T)]).toArray 97)) = w7 by rw [hw]; rfl] at X7
            rw [← hw] at B7 O7 ⊢
            rw [← hgx] at X7 ⊢
            clear hw ba hgx
            refine hK.out _ _ (HS.out _ B7.out) (fun hHeld => ?_)
            try simp only [Act.put, List.getElem_toArray, List.getElem_cons_succ, List.getElem_cons_zero, List.setIfInBounds_toArray, List.set_cons_zero, List.set_cons_succ]
            refine wpAnyH_ready (rs := [22]) (by kernel_rfl) (by simp) ?_
            refine AllReadyH.cons rfl (fun K hK => ?_) AllReadyH.nil
            rw [if_pos (show Region.wanted _ _ = true by kernel_rfl)]
            refine wp_appendC (.tmp 56) (.tmp 71) 49 rfl N0 97 (.agg #[.int .i64 0, .string ⟨#[]⟩]) 2 24 Try.underlying49 waitinfo rfl (by omega) v1 CK.length (tcells CK) rfl O7.out (some ⟨gx, 0, none⟩) 1 1 (tcells [(x.1, T)]) rfl rfl X7.out.cells (tcell_oneCell _) (by simp only [maxLen]; omega) (by omega) (by have := HN0.out; have := B7.out.size; omega) ?_
            intro v2 w9 hown hgrow _ _
            have hb4 := B7.out.grown hgrow (by have := HN0.out; have := B7.out.size; omega) (own_base O7.out)
            rw [← tcells_append] at hown
            obtain ⟨A4, c4, rfl, hl4, hc4, hn4, hm4, ha4⟩ := own_readsT hown
            have HS9 := Lib.hid (HS.out _ hb4)
            rw [HN0.out] at hb4 ha4
            have B4 := Lib.hid hb4
            have C4 := Lib.hid hc4
            have A4L := Lib.hid ha4
            clear hown hgrow hb4 hc4 ha4
            refine hK.out _ _ HS9.out (fun hHeld => ?_)
            try simp only [Act.put, List.getElem_toArray, List.getElem_cons_succ, List.getElem_cons_zero, List.setIfInBounds_toArray, List.set_cons_zero, List.set_cons_succ]
            refine wpAnyH_take (i := 23) (v := .pointer (some ⟨r, 0, none⟩)) rfl (by kernel_rfl) (by kernel_rfl) (by kernel_rfl) (fun _ _ _ h => h) (Or.inl ⟨by kernel_rfl, fun w _ => by go_simp⟩) hHeld ?_
            try simp only [Act.put, List.getElem_toArray, List.getElem_cons_succ, List.getElem_cons_zero, List.setIfInBounds_toArray, List.set_cons_zero, List.set_cons_succ]
            refine wpAnyH_take (i := 24) (v := .pointer (some ⟨r, 1, none⟩)) rfl (by kernel_rfl) (by kernel_rfl) (by kernel_rfl) (fun _ _ _ h => h) (Or.inl ⟨by kernel_rfl, fun w _ => by go_simp⟩) hHeld ?_
            try simp only [Act.put, List.getElem_toArray, List.getElem_cons_succ, List.getElem_cons_zero, List.setIfInBounds_toArray, List.set_cons_zero, List.set_cons_succ]
            have RE := RD.out.keep B4.out
            obtain ⟨j1, j2⟩ := RE.head.get 1 _ rfl
            refine wpAnyH_ready (rs := [25]) (by kernel_rfl) (by simp) ?_
            refine AllReadyH.cons rfl (fun K hK => ?_) AllReadyH.nil
            go_simp
            clear j1 j2 RE
            have hok2 := crash_step_ok HOK.out keep torn cut hc (k + 1) (by omega)
            have hT2 : CK ++ [(x.1, T)] = crashC keep torn cut D C (k + 1) := by
              show _ = crashC keep torn cut D C k ++ [_]
              rw [← HCK.out, HX.out, HCNE.out, ← HSL.out, ← HT.out]
            have hfin := RD.out.gone (D' := { D with blks := crashK keep torn cut D (k + 1) }) (C' := CK ++ [(x.1, T)]) B4.out C4.out A4L.out (by rw [hl4]; exact hn4) hm4 hok2 rfl (by show (crashK keep torn cut D (k + 1)).length = (crashK keep torn cut D k).length; rw [crashK_length, crashK_length]) rfl rfl (fun y hy => by
              rcases List.mem_append.1 hy with h | h
              · exact RD.out.cok y h
              · rw [List.mem_singleton.1 h]; exact HTL.out) (by
              have hag := RD.out.agree
              have h2 := crash_agree (C := CK) HOK.out keep torn cut hc k hlt (fun a ha => hag a (by show a < (crashK keep torn cut D k).length; rw [crashK_length]; exact ha))
              rw [HX.out, HCNE.out, ← HSL.out, ← HT.out] at h2
              intro a ha
              exact h2 a (by have : a < (crashK keep torn cut D k).length := ha; rwa [crashK_length] at this)) (by rw [List.length_append, List.length_singleton]; omega)
            rw [hl4] at hfin
            have R5 : Hid (∃ Ac cc, RefIn F (w9.setCell ⟨r, 1, none⟩ (.slice A4 (CK.length + 1) c4)) r Ac cc (some ⟨b, o, none⟩) wc { D with blks := crashK keep torn cut D (k + 1) } (crashC keep torn cut D C (k + 1))) := Lib.hid ⟨_, _, by rw [← hT2]; exact hfin⟩
            have T5 := Lib.hid ((TD.out.trans (Turn.of_below B4.out)).trans (Turn.set (F := fun b => b = r) (i := 1) w9 rfl (.slice A4 (CK.length + 1) c4)))
            have far : ∀ i, (w9.setCell ⟨r, 1, none⟩ (.slice A4 (CK.length + 1) c4)).cell? ⟨q6, i, none⟩ = w9.cell? ⟨q6, i, none⟩ := fun i => World.cell?_setCell_other w9 ⟨r, 1, none⟩ ⟨q6, i, none⟩ _ (fun e => by injection e with e; have := HQR.out; omega)
            refine hK.out _ _ ⟨(far _).trans HS9.out.1, (far _).trans HS9.out.2⟩ (fun hHeld => ?_)
            try simp only [Act.put, List.getElem_toArray, List.getElem_cons_succ, List.getElem_cons_zero, List.setIfInBounds_toArray, List.set_cons_zero, List.set_cons_succ]
            clear hfin hok2 far hT2
            refine wpAnyH_done (by kernel_rfl) ?_ _
            clear hHeld
            go_wp2_with fail
            go_roundw
            case rel => exact ⟨k + 1, by omega, by go_num, R5.out, T5.out⟩
            case measure => simp [intOf]; omega
    · obtain rfl : k = D.waits.length := by omega
      clear hlt hk
      obtain ⟨c3, f3⟩ := RK.out.head.get 3 _ rfl
      obtain ⟨c4, f4⟩ := RK.out.head.get 4 _ rfl
      go_wp2_with fail
      go_ret
      clear c3 c4 f3 f4 c2 f2
      have hok : (⟨crashK keep torn cut D D.waits.length, [], -1, false⟩ : Dk).Ok := by
        have := crashed_ok HOK.out keep torn (cut : Int)
        unfold crashed at this
        rw [if_neg (by omega)] at this
        exact this
      have hok2 : ({ D with blks := crashK keep torn cut D D.waits.length, waits := [] } : Dk).Ok := ⟨hok.blk, fun x hx => absurd hx (by simp), hok.pos, hok.many, Nat.zero_le _, HOK.out.lo, HOK.out.hi⟩
      have hfin := RK.out.more (D' := { D with blks := crashK keep torn cut D D.waits.length, waits := [] }) (Aw' := none) (wc' := 0) (Below.refl _ _) (Cells.nil _ _) (fun a e => by cases e) (Nat.le_refl _) (by simp [maxLen]) hok2 rfl rfl rfl
      have t3 := (Turn.set (F := fun b => b = r) (i := 3) (wr.setCell ⟨r, 2, none⟩ (.slice none 0 0)) rfl (.int .i64 (-1))).trans (Turn.set (F := fun b => b = r) (i := 4) _ rfl (.bool false))
      have hfin2 := hfin.headset (D' := ⟨crashK keep torn cut D D.waits.length, [], -1, false⟩) t3 rfl rfl hok ((hfin.head.setAt 3 (by simp) (.int .i64 (-1))).setAt 4 (by simp) (.bool false))
      exact ⟨rfl, ⟨_, _, _, _, hfin2⟩, ((T1.out.trans TK.out).trans (Turn.set (F := fun b => b = r) wr rfl _)).trans t3⟩

theorem crashref_any (w : World) (h : RefAt F w r D C) (K : Option Addr) (kn kc : Nat) (keep : List Bool) (torn cut : Int) (hkn : keep.length = kn) (hkk : kn ≤ maxLen) (hcs : Cells w K (kcells keep)) (hap : keep = [] ∨ Apart K r) (hroom : C.length + D.waits.length ≤ 1000) :
    Calls Try.prog 37 #[.pointer (some ⟨r, 0, none⟩), .agg #[.slice K kn kc, .int .i64 torn, .int .i64 cut]] w fun e w' => e = .returned (.int .i64 (crashE cut)) ∧ (∃ C', RefAt F w' r (crashed D keep torn cut) C' ∧ C'.length + (crashed D keep torn cut).waits.length ≤ C.length + D.waits.length) ∧ Turn (fun b => b = r) w w' := by
  by_cases hc : cut < 0 ∨ 128 < cut
  · rw [show crashE cut = 2 by unfold crashE; rw [if_pos hc], show crashed D keep torn cut = D by unfold crashed; rw [if_pos hc]]
    refine (crashref_bad (r := r) w K kn kc torn cut hc).mono ?_
    rintro e w' ⟨rfl, hb⟩
    exact ⟨rfl, ⟨C, h.keep hb, Nat.le_refl _⟩, Turn.of_below hb⟩
  · rw [show crashE cut = 0 by unfold crashE; rw [if_neg hc], show crashed D keep torn cut = ⟨crashK keep torn cut.toNat D D.waits.length, [], -1, false⟩ by unfold crashed; rw [if_neg hc]]
    obtain ⟨n, rfl⟩ : ∃ n : Nat, cut = (n : Int) := ⟨cut.toNat, by omega⟩
    refine (crashref_in w h K kn kc keep torn n hkn hkk hcs hap (by omega) hroom).mono ?_
    rintro e w' ⟨rfl, hr, ht⟩
    exact ⟨rfl, ⟨_, hr, by rw [crashC_length]; simp⟩, ht⟩
end

end Go.Proofs.Ytdnhlpddnbholaa
