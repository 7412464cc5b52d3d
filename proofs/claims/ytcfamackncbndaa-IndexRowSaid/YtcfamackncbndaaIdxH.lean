/-
  index.Decode: a page of numbers: up to the loop.
-/
import Derived.Test.YtcfamackncbndaaIdxG
namespace Go.Proofs.Ytcfamackncbndaa
open Go.RowKit Go.Shelf
set_option linter.unusedVariables false
attribute [local go_sem] Oper.semAt_some

/-- What is taken of what has come. -/
def took (m : Nat) (pre : List (Nat × UInt16)) : List UInt16 := (pre.filter fun x => decide (x.1 < m)).map (·.2)
theorem took_yes (m : Nat) (pre : List (Nat × UInt16)) (x : Nat × UInt16) (h : x.1 < m) : took m (pre ++ [x]) = took m pre ++ [x.2] := by simp [took, h]
theorem took_no (m : Nat) (pre : List (Nat × UInt16)) (x : Nat × UInt16) (h : ¬ x.1 < m) : took m (pre ++ [x]) = took m pre := by
  simp [took]; omega
theorem took_length (m : Nat) (pre : List (Nat × UInt16)) : (took m pre).length ≤ pre.length := by
  unfold took
  rw [List.length_map]
  exact List.length_filter_le _ _
theorem took_upto (m : Nat) (b : List UInt8) : ∀ k, k ≤ 61 → took m (upto b k) = (nums b).take (min m k)
  | 0, _ => by simp [took, upto]
  | k + 1, h => by
    rw [upto_succ]
    by_cases hkm : k < m
    · rw [took_yes m _ _ hkm, took_upto m b k (by omega), show min m k = k by omega, show min m (k + 1) = k + 1 by omega, nums_take b k (by omega)]
      rfl
    · rw [took_no m _ _ hkm, took_upto m b k (by omega)]
      congr 1
      omega
theorem zeros_iff (m : Nat) (b : List UInt8) : ((nums b).drop m).all (· == 0) = true ↔ ∀ j, m ≤ j → j < 61 → UInt16.ofNat (numAt b j) = 0 := by
  rw [List.all_eq_true]
  constructor
  · intro h j h1 h2
    have hmem : UInt16.ofNat (numAt b j) ∈ (nums b).drop m := by
      refine List.mem_iff_getElem.2 ⟨j - m, by rw [List.length_drop, nums_length]; omega, ?_⟩
      rw [List.getElem_drop]
      simp [nums]
      congr 2
      omega
    simpa using h _ hmem
  · intro h x hx
    obtain ⟨i, hi, rfl⟩ := List.mem_iff_getElem.1 hx
    rw [List.length_drop, nums_length] at hi
    rw [List.getElem_drop]
    have := h (m + i) (by omega) (by omega)
    simpa [nums] using this
theorem upto_mem (b : List UInt8) (j k : Nat) (h : j < k) : nat_ b j ∈ upto b k := by
  unfold upto
  exact List.mem_map.2 ⟨j, List.mem_range.2 h, rfl⟩

theorem isIdx_at (kind : UInt8) (p : List UInt8) (hp : isPage p = true) (hk : p.headD 0 = kind) (hr : rightK kind = true) (hm : manyOf p ≤ 61) : isIdx kind p = ((nums (bodyOf p)).drop (manyOf p)).all (· == 0) := by
  unfold isIdx
  rw [hp, hk, hr]
  simp [hm]

set_option maxRecDepth 100000 in
set_option maxHeartbeats 2000000 in
theorem decode_good (A : Option Addr) (n c : Nat) (kind : UInt8) (p : List UInt8) (w : World) (h : Reads8 w A n p) (hn : n ≤ maxLen) (hnc : n ≤ c) (hp : isPage p = true)
    (hk : p.headD 0 = kind) (hr : rightK kind = true) (hm61 : manyOf p ≤ 61) :
    Calls Try.prog 13 #[.int .u8 (kind.toNat : Int), .slice A n c] w fun e w' => (isIdx kind p = true ∧ ∃ v, e = .returned (.tuple #[v, .int .i64 0]) ∧ ∃ N, w.heap.size ≤ N ∧ w'.ownsRow N 43 1 v (idxOf p).length (wcells (idxOf p)) ∧ v ≠ .slice none 0 0 ∧ Below w.heap.size w w') ∨ (isIdx kind p = false ∧ e = .returned (.tuple #[.slice none 0 0, .int .i64 50]) ∧ Below w.heap.size w w') := by
  have HR := Lib.hid h; clear h
  have HP := Lib.hid hp; clear hp
  have hb123 : (bodyOf p).length = 123 := by
    have : p.length = 128 := by have h1 := HP.out; unfold isPage at h1; simp only [Bool.and_eq_true, decide_eq_true_eq] at h1; exact h1.1
    unfold bodyOf; simp; omega
  have HL := Lib.hid hb123; clear hb123
  have HRK := Lib.hid hr; clear hr
  refine (callsIn_wide (n := 5)).1 ?_
  refine callsIn_of_wp_marks Try.func13 rfl trivial ?_ rfl
  simp only [Try.ntmps13, List.size_toArray, List.length_cons, List.length_nil, Nat.reduceAdd, Nat.reduceSub, Array.replicate_succ, Array.replicate_zero, List.push_toArray, List.append_toArray, List.nil_append, List.cons_append]
  have B2 := Lib.hid (Boxes.start w)
  gi_wp2
  refine ⟨trivial, ?_⟩
  gi_at_call 26
  refine (callsIn_wide.2 (open_yes A n c p _ (HR.out.keep B2.out.bw) hnc HP.out)).mono ?_
  rintro e w1 ⟨v, rfl, hF⟩
  obtain ⟨g, d, rfl, hg, hd, hdm, hM, hB⟩ := hF.open_ HL.out
  replace hM : Mem8 w1 g 0 123 (bodyOf p) := hM
  have B3 := Lib.hid (B2.out.keep hB)
  have h0 : w1.cell? ⟨g, 0, none⟩ = some (.int .u8 (manyOf p : Int)) := by
    have := hM.cell 0 (by have := HL.out; omega)
    rw [Nat.add_zero] at this
    rw [this]
    unfold manyOf
    rw [List.headD_eq_head?_getD, List.head?_eq_getElem?, List.getElem?_eq_getElem (by have := HL.out; omega)]
    rfl
  have hg1 : g < w1.heap.size := hM.lt
  have hM0 := hM
  clear hM hB hF
  generalize hmk : manyOf p = m at *
  have HMK := Lib.hid hmk; clear hmk
  subst hk
  generalize hkd : p.headD 0 = kd at *
  have HKD := Lib.hid hkd; clear hkd
  have HM := Lib.hid hM0; clear hM0
  have hm1 : (0 : Int) ≤ (m : Int) := by omega
  obtain ⟨i0, hi, hz0, hz1, hz2⟩ := info_parts u16info
  gi_wp2_with fail
  refine ⟨trivial, ?_⟩
  gi_at_call 23
  refine (callsIn_wide.2 (right_any kd _)).mono ?_
  rintro e w' ⟨rfl, rfl⟩
  rw [HRK.out]
  have hn2 : ¬ (61 : Int) < (m : Int) := by omega
  gi_wp2_with (first
    | (gi_at_make; refine wpListIn_make_own _ rfl _ _ 22 rfl w1.heap.size 43 i0 (.int .u16 0) 1 Try.underlying22 hi hz0 hz1 .i64 .u8 (m : Int) m rfl rfl rfl (by rw [hz2]; omega) (by simp only [maxLen]; omega) (by simp) ?_)
    | (refine ⟨trivial, ?_⟩))
  intro w2 hown hgrow
  have B12 := Lib.hid (((Below.refl w1.heap.size w1).alloc (Nat.le_refl _) (.cells #[.slice (some ⟨g, 0, none⟩) 123 d] 23)).grown hgrow (by simp) (by intro k hk; cases hk))
  have b7 := (Boxed.new w1 23 (.slice (some ⟨g, 0, none⟩) 123 d)).kept hgrow (by simp)
  have s2 : w1.heap.size + 1 < w2.heap.size := (hown.lt (w1.heap.size + 1) rfl).2
  have B7 := Lib.hid b7
  have HO := Lib.hid hown
  have c7 := b7.cell
  have c7' := (b7.alloc (.cells #[.slice (some ⟨w1.heap.size + 1, 0, none⟩) 0 m] 22)).cell
  have l7 := b7.lt
  have b9 := Boxed.new w2 22 (.slice (some ⟨w1.heap.size + 1, 0, none⟩) 0 m)
  clear hown hgrow b7
  gi_wp2_with fail
  refine ⟨trivial, ?_⟩
  gi_at_call 27
  refine (numbers_in _ _ _ _ _).mono ?_
  rintro e w' ⟨rfl, rfl⟩
  gi_wp2_with fail
  obtain ⟨wl, hwl⟩ : ∃ x, x = (w2.alloc (.cells #[.slice (some ⟨w1.heap.size + 1, 0, none⟩) 0 m] 22)).alloc (.cells #[.slice (some ⟨g, 0, none⟩) 123 d] 23) := ⟨_, rfl⟩
  have hsz : wl.heap.size = w2.heap.size + 2 := by rw [hwl]; simp
  have v9 : Boxed wl w2.heap.size 22 (.slice (some ⟨w1.heap.size + 1, 0, none⟩) 0 m) := by rw [hwl]; exact b9.alloc _
  have v7 : Boxed wl w1.heap.size 23 (.slice (some ⟨g, 0, none⟩) 123 d) := by rw [hwl]; exact (B7.out.alloc _).alloc _
  have vs : Boxed wl (w2.heap.size + 1) 23 (.slice (some ⟨g, 0, none⟩) 123 d) := by
    rw [hwl]
    have := Boxed.new (w2.alloc (.cells #[.slice (some ⟨w1.heap.size + 1, 0, none⟩) 0 m] 22)) 23 (.slice (some ⟨g, 0, none⟩) 123 d)
    rwa [World.size_alloc] at this
  have hO : wl.ownsRow w1.heap.size 43 1 (.slice (some ⟨w1.heap.size + 1, 0, none⟩) 0 m) 0 [] := by rw [hwl]; exact (HO.out.alloc _).alloc _
  have hBl : Below w1.heap.size w1 wl := by rw [hwl]; exact (B12.out.alloc (by omega) _).alloc (by simp; omega) _
  rw [← hwl]
  clear hwl b9 c7 c7'
  have hws : w.heap.size + 1 < w1.heap.size := B3.out.b5.lt
  refine wpIn_rangeFunc_ownG rfl (by omega) (gf := 36) (lb := #[.pointer (some ⟨w2.heap.size + 1, 0, none⟩)]) rfl trivial (enters_of Try.func36 (by kernel_rfl) rfl)
    (num_stops (5 - 1) (by omega) (w2.heap.size + 1) w1.heap.size g d (bodyOf p) hg1 hd wl (by omega) (by omega) vs.cell (HM.out.below hBl hg1)) (fun h k => h.trans k)
    (fun W l o o' hl h h1 h2 => ⟨belowK_b (w := wl) (by omega) W l o o' hl h h1 h2, World.putObj_heap_other (by omega)⟩) (Below.refl _ _) (fun _ => rfl)
    (fun pre W => (∃ v, Boxed W w2.heap.size 22 v ∧ W.ownsRow w1.heap.size 43 1 v (took m pre).length (wcells (took m pre)) ∧ v ≠ .slice none 0 0) ∧ ((∀ x ∈ pre, m ≤ x.1 → x.2 = 0) ∧ Boxed W w1.heap.size 23 (.slice (some ⟨g, 0, none⟩) 123 d) ∧ Boxed W (w2.heap.size + 1) 23 (.slice (some ⟨g, 0, none⟩) 123 d)) ∧ Below w1.heap.size w1 W)
    (fun c pre W => (c = .ret ∧ (∃ (ini : List (Nat × UInt16)) (last : Nat × UInt16), pre = ini ++ [last] ∧ m ≤ last.1 ∧ last.2 ≠ 0) ∧ Boxed W w.heap.size 22 (.slice none 0 0) ∧ Boxed W (w.heap.size + 1) 26 (.int .i64 50)) ∧ Below w.heap.size w W)
    (OwnFrom.and (Own.from (holdsRow_own w1.heap.size w2.heap.size 22 43 1 (fun pre => (took m pre).length) (fun pre => wcells (took m pre)) (fun _ v => v ≠ .slice none 0 0)) _)
      (OwnFrom.and (Own.from (fun s A B row hs hg hr => ⟨hs.1, boxed_own _ _ (fun (_ : Unit) => _) () A B row hs.2.1 hg hr, boxed_own _ _ (fun (_ : Unit) => _) () A B row hs.2.2 hg hr⟩) _) (ownFrom_below (Nat.le_refl _) (by omega))))
    (fun c => OwnFrom.and (Own.from (fun s A B row hs hg hr => ⟨hs.1, hs.2.1, boxed_own _ _ (fun (_ : Unit) => _) () A B row hs.2.2.1 hg hr, boxed_own _ _ (fun (_ : Unit) => _) () A B row hs.2.2.2 hg hr⟩) _) (ownFrom_below (Nat.le_refl _) (by omega)))
    ⟨⟨_, v9, hO, by simp⟩, ⟨by simp, v7, vs⟩, hBl⟩
    ?a1 ?assign ?body ?done ?stop
  case assign =>
    intro l x W K hK
    gi_wp2
    exact hK
  case body =>
    rintro l pre x W ⟨⟨v, hv9, hrow, hne⟩, ⟨hz, hv7, hvs⟩, hB⟩ hlen
    have hW := Lib.hid hB
    have HZ := Lib.hid hz; clear hz
    have HRow := Lib.hid hrow; clear hrow
    have H9 := Lib.hid hv9
    have H7 := Lib.hid hv7
    have HS := Lib.hid hvs
    have BX := Lib.hid (B3.out.keep hB)
    have g0 := (hB.cell (p := ⟨g, 0, none⟩) hg1).trans h0
    have e7 := hv7.cell
    have e9 := hv9.cell
    have e4 := BX.out.b4.cell
    have e5 := BX.out.b5.cell
    have f4 := BX.out.b4.frozen
    have f5 := BX.out.b5.frozen
    have hWs := hB.size
    clear hB hv7 hvs hv9
    have hlt := took_length m pre
    by_cases hxm : x.1 < m
    · have hxi : (x.1 : Int) < (m : Int) := by omega
      gi_wp2_with (first
        | (gi_at_builtin; refine wpListIn_append_own _ rfl _ _ 22 rfl w1.heap.size 43 i0 (.int .u16 0) 1 2 Try.underlying22 hi hz0 hz1 hz2 rfl (by decide) _ _ _ rfl (HRow.out.alloc _) ⟨W.heap.size, 0, none⟩ 1 1 [.int .u16 (x.2.toNat : Int)] rfl rfl (cell_one_new _ _ _) (by simp [Value.oneCell']) (by simp only [maxLen]; omega) (by omega) (by simp; omega) ?_)
        )
      intro v' w3 hown' hgrow hnil
      obtain ⟨hb1, hb2, hb3, hb4, hb5⟩ := Boxed.appended (n₀ := w1.heap.size) H9.out (by decide) HRow.out (by omega) (by omega) hown' hgrow
      have hs3 := ((HS.out.alloc _).kept hgrow (HS.out.not_row (by decide) HRow.out)).other (B' := w2.heap.size) (by omega) v'
      have h73 := ((H7.out.alloc _).kept hgrow (H7.out.not_row (by decide) HRow.out)).other (B' := w2.heap.size) (by omega) v'
      obtain ⟨g', cap', rfl⟩ := ownsRow_succ hown'
      have X1 := Lib.hid hb2
      have X2 := Lib.hid hb3
      have X3 := Lib.hid hb4
      have X4 := Lib.hid hb5
      have X5 := Lib.hid hs3
      have X6 := Lib.hid h73
      have e9' := hb1.cell
      have f9' := hb1.frozen
      clear hb1 hb2 hb3 hb4 hb5 hs3 h73 hown' hgrow hnil
      gi_wp2
      refine ⟨X3.out.from _, ⟨X4.out, X5.out.trans HS.out.symm⟩, ⟨⟨_, X1.out, ?_, by simp⟩, ⟨?_, X6.out, X5.out⟩, hW.out.trans X4.out⟩⟩
      · rw [took_yes m pre x hxm, wcells_append, List.length_append]
        exact X2.out
      · intro y hy hym
        rcases List.mem_append.1 hy with h1 | h1
        · exact HZ.out y h1 hym
        · rw [List.mem_singleton.1 h1] at hym
          omega
    · have hxi : ¬ (x.1 : Int) < (m : Int) := by omega
      by_cases hx0 : x.2 = 0
      · have hq : ((x.2.toNat : Int) != 0) = false := by rw [hx0]; rfl
        gi_wp2
        refine ⟨KeepsFrom.refl _ _, KpN.refl _ _ _, ⟨⟨v, H9.out, ?_, hne⟩, ⟨?_, H7.out, HS.out⟩, hW.out⟩⟩
        · rw [took_no m pre x hxm]
          exact HRow.out
        · intro y1 y2 hy hym
          rcases List.mem_append.1 hy with h1 | h1
          · exact HZ.out (y1, y2) h1 hym
          · have e := List.mem_singleton.1 h1
            rw [← e] at hx0
            exact hx0
      · have hq : ((x.2.toNat : Int) != 0) = true := by
          simp
          intro e
          exact hx0 (UInt16.toNat_inj.1 (by simpa using e))
        obtain ⟨s4, s5⟩ := set2 (.slice none 0 0) (.int .i64 50) BX.out.b4 BX.out.b5 (by omega)
        have S4 := Lib.hid s4; clear s4
        have S5 := Lib.hid s5; clear s5
        gi_wp2
        refine ⟨((KeepsOthers.setCell _ _ _).trans (KeepsOthers.setCell _ _ _)).from _, ⟨rfl, ⟨pre, x.1, x.2, rfl, by omega, hx0⟩, S4.out, S5.out⟩, ?_⟩
        exact (BX.out.bw.setCell (p := ⟨w.heap.size, 0, none⟩) (Nat.le_refl _) _).setCell (p := ⟨w.heap.size + 1, 0, none⟩) (by simp) _
  case done =>
    rintro D ys W hD rfl ⟨⟨v, hv9, hrow, hne⟩, ⟨hz, hv7, hvs⟩, hB⟩ hK
    have BX := Lib.hid (B3.out.keep hB)
    have htk : took m (upto (bodyOf p) 61) = idxOf p := by
      rw [took_upto m _ 61 (Nat.le_refl _), show min m 61 = m by omega]
      unfold idxOf
      rw [HMK.out]
    rw [htk] at hrow
    obtain ⟨A', c', rfl, hrd, hcc, hcm, hob⟩ := own_readsW hrow
    have hi : isIdx kd p = true := by
      rw [isIdx_at kd p HP.out HKD.out HRK.out (by rw [HMK.out]; omega), HMK.out]
      refine (zeros_iff m (bodyOf p)).2 fun j h1 h2 => hz (nat_ (bodyOf p) j) (upto_mem _ _ _ h2) h1
    have HI := Lib.hid hi; clear hi
    have HRow := Lib.hid hrow; clear hrow
    have HZ := Lib.hid hz; clear hz
    have HTK := Lib.hid htk; clear htk
    have e9 := hv9.cell
    have e4 := BX.out.b4.cell
    have e5 := BX.out.b5.cell
    have f4 := BX.out.b4.frozen
    have f5 := BX.out.b5.frozen
    obtain ⟨s4, s5⟩ := set2 (.slice A' (idxOf p).length c') (.int .i64 0) BX.out.b4 BX.out.b5 (by omega)
    have S4 := Lib.hid s4; clear s4
    have S5 := Lib.hid s5; clear s5
    have HKo := Lib.hid hK
    gi_wp2
    have hK' := ((KeepsOthers.setCell W ⟨w.heap.size, 0, none⟩ (.slice A' (idxOf p).length c')).trans (KeepsOthers.setCell _ ⟨w.heap.size + 1, 0, none⟩ (.int .i64 0))).same D _ hK rfl
    refine ⟨by simp, .inl ⟨_, _, rfl, run_takeDeferred hK', ?_⟩⟩
    refine dec_leaves rfl rfl (cell_kept S4.out.cell (grownBy_putObj' _ D (.deferred none)) (fun r e => by cases e; exact ⟨_, hK', rfl⟩)) (cell_kept S5.out.cell (grownBy_putObj' _ D (.deferred none)) (fun r e => by cases e; exact ⟨_, hK', rfl⟩)) (.inl ⟨by rw [HKD.out]; exact HI.out, _, rfl, w1.heap.size, by omega, ?_, hne, ?_⟩)
    · exact ownsRow_putObj (ownsRow_setCell_below (ownsRow_setCell_below HRow.out (a := ⟨w.heap.size, 0, none⟩) (by simp; omega) _) (a := ⟨w.heap.size + 1, 0, none⟩) (by simp; omega) _) _ hK' rfl
    · exact ((BX.out.bw.setCell (p := ⟨w.heap.size, 0, none⟩) (Nat.le_refl _) _).setCell (p := ⟨w.heap.size + 1, 0, none⟩) (by simp) _).trans (belowK_b (w := wl) (by omega) _ D _ _ (by omega) hK' rfl rfl)
  case stop =>
    rintro D c pre W hD ⟨k, hk, rfl⟩ ⟨⟨rfl, ⟨ini, last, e1, e2, e3⟩, b4, b5⟩, hB⟩ hK
    obtain ⟨k', rfl⟩ : ∃ k', k = k' + 1 := by
      cases k with
      | zero => simp [upto] at e1
      | succ k' => exact ⟨k', rfl⟩
    rw [upto_succ] at e1
    obtain ⟨rfl, e5⟩ := List.append_inj' e1 rfl
    obtain rfl : nat_ (bodyOf p) k' = last := by simpa using e5
    have hi : isIdx kd p = false := by
      rw [isIdx_at kd p HP.out HKD.out HRK.out (by rw [HMK.out]; omega), HMK.out]
      cases hz : ((nums (bodyOf p)).drop m).all (· == 0)
      · rfl
      · exact absurd ((zeros_iff m (bodyOf p)).1 hz k' e2 (by omega)) e3
    have HI := Lib.hid hi; clear hi
    clear e1 e2 e3 e5
    gi_wp2
    refine ⟨by simp, .inl ⟨_, _, rfl, run_takeDeferred hK, ?_⟩⟩
    refine dec_leaves rfl rfl (cell_kept b4.cell (grownBy_putObj' _ D (.deferred none)) (fun r e => by cases e; exact ⟨_, hK, rfl⟩)) (cell_kept b5.cell (grownBy_putObj' _ D (.deferred none)) (fun r e => by cases e; exact ⟨_, hK, rfl⟩)) (.inr ⟨by rw [HKD.out]; exact HI.out, rfl, ?_⟩)
    exact hB.trans (belowK_b (w := wl) (by omega) _ D _ _ (by omega) hK rfl rfl)

end Go.Proofs.Ytcfamackncbndaa
