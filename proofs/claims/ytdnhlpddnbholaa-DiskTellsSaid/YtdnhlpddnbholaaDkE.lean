/-
  cache.last: the last write of a place.
-/
import Derived.Test.YtdnhlpddnbholaaDkD
namespace Go.Proofs.Ytdnhlpddnbholaa
open Go.RowKit Go.Shelf
set_option linter.unusedVariables false
set_option linter.unusedSimpArgs false
attribute [local go_sem] Oper.semAt_some

theorem lastK_of {l : List (Nat × List UInt8)} {a : Int} {i : Nat} : ∀ {k : Nat}, i < k → ((l.getD i nW).1 : Int) = a → (∀ j, i < j → j < k → ((l.getD j nW).1 : Int) ≠ a) → lastK l a k = some i
  | 0, h, _, _ => absurd h (Nat.not_lt_zero _)
  | k + 1, h, h1, h2 => by
    unfold lastK
    by_cases e : i = k
    · subst e
      rw [if_pos h1]
    · rw [if_neg (h2 k (by omega) (Nat.lt_succ_self _))]
      exact lastK_of (by omega) h1 fun j g1 g2 => h2 j g1 (by omega)
theorem lastK_nil {l : List (Nat × List UInt8)} {a : Int} : ∀ {k : Nat}, (∀ j, j < k → ((l.getD j nW).1 : Int) ≠ a) → lastK l a k = none
  | 0, _ => rfl
  | k + 1, h => by
    unfold lastK
    rw [if_neg (h k (Nat.lt_succ_self _))]
    exact lastK_nil fun j hj => h j (by omega)

section
variable {F : Fence} {n : Nat} {ops : Array Oper} {rest : List Oper} {op op2 : Oper} {a : Act} {w : World} {Q : Exit → Act → World → Prop}
theorem wlI_new (d : Nat) (x : Operand) (ho : op.op = .alloc 83) (hd : op.dst = some d) (ho2 : op2.op = .store 83 (.tmp d) x) (hw : Region.wanted op (yielded ops a.tmps) = true) (s : Nat × List UInt8) (h1 : s.2.length = 128)
    (hx : (a.put op.dst (.pointer (some ⟨w.heap.size, 0, none⟩))).eval x = wval s) (hd2 : (a.put op.dst (.pointer (some ⟨w.heap.size, 0, none⟩))).eval (.tmp d) = .pointer (some ⟨w.heap.size, 0, none⟩)) (hw2 : Region.wanted op2 (yielded ops (a.put op.dst (.pointer (some ⟨w.heap.size, 0, none⟩))).tmps) = true)
    (h : ∀ W, Below w.heap.size w W → MemC W w.heap.size 0 (wcell s) → W.heap.size = w.heap.size + 1 → wpListIn F n Try.prog ops Q rest ((a.put op.dst (.pointer (some ⟨w.heap.size, 0, none⟩))).put op2.dst undef) W) : wpListIn F n Try.prog ops Q (op :: op2 :: rest) a w := by
  refine BigFrame.wpListIn_want hw fun K hK => ?_
  refine ⟨fun f hf => by simp [Oper.about, ho] at hf, ?_⟩
  rw [Oper.semAt_eq _ _ _ (by simp [ho])]
  unfold execOp
  simp only [ho, Sem.run_bind, exec_alloc, Result.andThen_ok, Sem.run_pure, Oper.uponIn_value]
  refine hK _ _ ?_
  refine BigFrame.wpListIn_want hw2 fun K hK => ?_
  refine ⟨fun f hf => by simp [Oper.about, ho2] at hf, ?_⟩
  rw [Oper.semAt_eq _ _ _ (by simp [ho2])]
  have hm := MemC.new w (wcell (0, List.replicate 128 0)) 83
  have hlen := wcell_length s h1
  have ht : (w.alloc (.cells (wcell (0, List.replicate 128 0)).toArray 83)).there w.heap.size 0 (wcell s).toArray.size := fun j hj => by
    have hj' : j < (wcell (0, List.replicate 128 0)).length := by rw [wcell_length _ (by simp)]; simpa [hlen] using hj
    exact ⟨by rw [hm.at_.cell j hj']; rfl, hm.free j hj'⟩
  have hi : (Try.prog.info? 83).map (·.size) = some (wcell s).toArray.size := by simpa using writeinfo s h1
  have hr := run_storeAt_mid (P := Try.prog) (w.alloc (.cells (wcell (0, List.replicate 128 0)).toArray 83)) w.heap.size 0 83 (wcell s).toArray ht hi (all_oneCell_toArray (wcell_one s))
  rw [List.toList_toArray] at hr
  unfold execOp
  have hx' : (a.put op.dst (.pointer (some ⟨w.heap.size, 0, none⟩))).eval x = .agg (wcell s).toArray := hx
  simp only [ho2, hd2, hx', Sem.run_bind, hr, Result.andThen_ok, Sem.run_pure]
  refine hK _ _ (h _ ?_ ?_ ?_)
  · exact ((Below.refl _ w).alloc (Nat.le_refl _) _).trans (below_setCells (Nat.le_refl _) _ _ _)
  · have ht' : (w.alloc (.cells (wcell (0, List.replicate 128 0)).toArray 83)).there w.heap.size 0 (wcell s).length := by simpa using ht
    have hr := World.rangeAt_setCells_same _ w.heap.size 0 (wcell s) ht'
    have hz := World.there_setCells ht' w.heap.size 0 (wcell s)
    have hb := below_setCells (Nat.le_refl w.heap.size) (wcell s) (w.alloc (.cells (wcell (0, List.replicate 128 0)).toArray 83)) 0
    exact ⟨⟨Nat.lt_of_lt_of_le hm.at_.lt hb.size, fun j hj => hr j _ (List.getElem?_eq_getElem hj)⟩, fun j hj => (hz j hj).2⟩
  · have := (wrote_setCells w.heap.size (wcell s) (w.alloc (.cells (wcell (0, List.replicate 128 0)).toArray 83)) 0).size
    rw [this]
    simp
end

/-- The result lies in a box. -/
theorem last_leaves {n : Nat} {R : Ending → World → Prop} {tmps : Array Value} {W : World} {B4 : Nat} {k : Int}
    (t4 : tmps[4]?.getD undef = .pointer (some ⟨B4, 0, none⟩)) (h4 : W.cell? ⟨B4, 0, none⟩ = some (.int .i64 k)) (hR : R (.returned (.int .i64 k)) W) :
    LeavesInM Fence.wide n Try.prog Try.f32 tmps R [] .returning W := by
  refine ⟨.int .i64 k, ?_, hR⟩
  simp [results, Try.f32, go_sem, t4, h4]

theorem boxed_keep {X W : World} {B N : Nat} {t : TypeId} {v : Value} (h : Boxed X B t v) (hb : Below N X W) (hB : B < N) : Boxed W B t v := (hb.block B hB).trans h

/-- The two boxes of 'last'. -/
structure BoxesL (w : World) (a : Int) (X : World) : Prop where
  b3 : Boxed X w.heap.size 3 (.int .i64 a)
  b4 : Boxed X (w.heap.size + 1) 3 (.int .i64 0)
  bw : Below w.heap.size w X
theorem BoxesL.start (w : World) (a : Int) : BoxesL w a ((w.alloc (.cells #[.int .i64 a] 3)).alloc (.cells #[.int .i64 0] 3)) :=
  ⟨(Boxed.new w _ _).alloc _, by have := Boxed.new (w.alloc (.cells #[.int .i64 a] 3)) 3 (.int .i64 0); rwa [World.size_alloc] at this, ((Below.refl _ w).alloc (Nat.le_refl _) _).alloc (by simp) _⟩
theorem BoxesL.keep {w X W : World} {a : Int} (h : BoxesL w a X) (hb : Below X.heap.size X W) : BoxesL w a W :=
  ⟨boxed_keep h.b3 hb h.b3.lt, boxed_keep h.b4 hb h.b4.lt, h.bw.trans (hb.mono h.bw.size)⟩

set_option maxRecDepth 100000 in
set_option maxHeartbeats 4000000 in
theorem last_any {F : Nat → Prop} (w : World) {p q c : Nat} {v : Value} {D : Dk} (h : DiskIn F w p q c v D) (a : Int) :
    Calls Try.prog 32 #[.pointer (some ⟨p, 1, none⟩), .int .i64 a] w fun e w' => e = .returned (.int .i64 (lastZ (lastK D.waits a D.waits.length))) ∧ Below w.heap.size w w' := by
  have HD := Lib.hid h
  obtain ⟨A, d, rfl, _, hnd, hdm, hcells⟩ := h.slice
  have hl : ∀ x ∈ D.waits, x.2.length = 128 := fun x hx => (h.ok.wait x hx).2
  have hfew := h.ok.few
  obtain ⟨h1, _⟩ := h.head.get 1 _ rfl
  have HC := Lib.hid hcells
  have HL := Lib.hid hl
  clear h hcells hl
  refine (callsIn_wide (n := 5)).1 ?_
  refine callsIn_of_wp_marks Try.func32 rfl trivial ?_ rfl
  simp only [Try.ntmps32, List.size_toArray, List.length_cons, List.length_nil, Nat.reduceAdd, Nat.reduceSub, Array.replicate_succ, Array.replicate_zero, List.push_toArray, List.append_toArray, List.nil_append, List.cons_append]
  obtain ⟨W2, hW2⟩ : ∃ W : World, W = (w.alloc (.cells #[.int .i64 a] 3)).alloc (.cells #[.int .i64 0] 3) := ⟨_, rfl⟩
  have b2 : BoxesL w a W2 := by rw [hW2]; exact BoxesL.start w a
  have hs2 : W2.heap.size = w.heap.size + 2 := by rw [hW2]; simp
  have B2 := Lib.hid b2
  have D2 := Lib.hid (HD.out.keep B2.out.bw)
  have h1' := (D2.out.head.get 1 _ rfl).1
  rw [hW2] at h1'
  clear h1
  gi_wp2_with fail
  refine ⟨trivial, ?_⟩
  gi_at_call 42
  refine (backward_in _ _ _ _ _).mono ?_
  rintro e w' ⟨rfl, rfl⟩
  clear h1'
  gi_wp2_with fail
  rw [← hW2]
  have hWs : W2.heap.size = w.heap.size + 1 + 1 := hs2
  obtain ⟨wl, hwl⟩ : ∃ x, x = W2.alloc (.cells #[.slice A D.waits.length d] 73) := ⟨_, rfl⟩
  have hsz : wl.heap.size = W2.heap.size + 1 := by rw [hwl]; simp
  have vs : Boxed wl W2.heap.size 73 (.slice A D.waits.length d) := by rw [hwl]; exact Boxed.new _ _ _
  have hBl : Below W2.heap.size W2 wl := by rw [hwl]; exact (Below.refl _ W2).alloc (Nat.le_refl _) _
  rw [← hwl]
  have hg2 : 0 < D.waits.length → ∃ g, A = some ⟨g, 0, none⟩ ∧ g < W2.heap.size ∧ CellsAt wl g 0 (wcells D.waits) := fun h0 => by
    obtain ⟨g, e, hm⟩ := HC.out h0
    have h2 := hm.keep B2.out.bw
    exact ⟨g, e, h2.at_.lt, (h2.keep hBl).at_⟩
  have HG := Lib.hid hg2
  clear hwl hg2 hW2
  rw [← hWs]
  have hle : w.heap.size ≤ W2.heap.size := by omega
  have hle1 : w.heap.size + 1 < W2.heap.size := by omega
  clear hs2 hWs
  refine wpIn_rangeFunc_ownH rfl (by omega) (gf := 45) (lb := #[.pointer (some ⟨W2.heap.size, 0, none⟩)]) rfl trivial (enters_of Try.func45 (by kernel_rfl) rfl)
    (back_stops (5 - 1) (by omega) W2.heap.size W2.heap.size A d D.waits HL.out hfew wl (by omega) (by omega) vs.cell HG.out) (fun h k => h.trans k)
    (fun W l o o' hl h h1 h2 => ⟨belowK_b (w := wl) (by omega) W l o o' hl h h1 h2, World.putObj_heap_other (by omega)⟩) (Below.refl _ _) (fun _ => rfl)
    (fun pre W => ((∀ y ∈ pre, ((D.waits.getD y nW).1 : Int) ≠ a) ∧ Boxed W W2.heap.size 73 (.slice A D.waits.length d)) ∧ Below W2.heap.size W2 W)
    (fun c pre W => (c = .ret ∧ ∃ (ini : List Nat) (last : Nat), pre = ini ++ [last] ∧ (∀ y ∈ ini, ((D.waits.getD y nW).1 : Int) ≠ a) ∧ ((D.waits.getD last nW).1 : Int) = a ∧ Boxed W (w.heap.size + 1) 3 (.int .i64 (last : Int))) ∧ Below w.heap.size w W)
    (OwnFrom.and (Own.from (fun s A B row hs hg hr => ⟨hs.1, boxed_own _ _ (fun (_ : Unit) => _) () A B row hs.2 hg hr⟩) _) (ownFrom_below (Nat.le_refl _) (by omega)))
    (fun c => OwnFrom.and (Own.from (fun s A B row hs hg hr => by
      obtain ⟨e, ini, last, h1, h2, h3, h4⟩ := hs
      exact ⟨e, ini, last, h1, h2, h3, boxed_own _ _ (fun (_ : Unit) => _) () A B row h4 hg hr⟩) _) (ownFrom_below (Nat.le_refl _) (by omega)))
    ⟨⟨by simp, vs⟩, hBl⟩
    (fun x a' W => ∃ b6, W.cell? ⟨b6, 0, none⟩ = some (.int .i64 ((D.waits.getD x nW).1 : Int)) ∧ a' = { tmps := #[.pointer (some ⟨p, 1, none⟩), .int .i64 a, undef, .pointer (some ⟨w.heap.size, 0, none⟩), .pointer (some ⟨w.heap.size + 1, 0, none⟩), .int .i64 (x : Int), .pointer (some ⟨b6, 0, none⟩), .pointer (some ⟨p, 1, none⟩), .pointer (some ⟨p, 1, none⟩), .pointer (some ⟨p, 1, none⟩), .slice A D.waits.length d, .func (.func 45) #[] #[.pointer (some ⟨W2.heap.size, 0, none⟩)], .int .i64 (x : Int), wval (D.waits.getD x nW), undef, undef, undef, undef, undef], defers := [] })
    (fun x a' => Own.from (fun _ A B row hs hg hr => by
      obtain ⟨b6, h1, h2⟩ := hs
      exact ⟨b6, cell_kept h1 hg hr, h2⟩) _)
    ?assign ?body ?done ?stop
  case assign =>
    rintro l pre x W K ⟨⟨hz, hv⟩, hB⟩ hK
    have HK := Lib.hid hK
    have HZ := Lib.hid hz
    have HV := Lib.hid hv
    have HB := Lib.hid hB
    have hyl := getD_length HL.out x
    obtain ⟨y, hy⟩ : ∃ y, D.waits.getD x nW = y := ⟨_, rfl⟩
    rw [hy] at hyl HK ⊢
    clear hz hv hB hK
    gi_wp2_with (refine wlI_new 6 (.tmp 13) rfl rfl rfl (by rfl) y hyl rfl rfl (by rfl) ?_)
    intro W' hb hm hs
    have HBb := Lib.hid hb
    have HM := Lib.hid hm
    clear hb hm hs hy hyl
    gi_wp2
    refine HK.out _ _ ?_ ?_ ⟨⟨HZ.out, ?_⟩, HB.out.trans (HBb.out.mono HB.out.size)⟩ ⟨W.heap.size, (HM.out.get 0 _ rfl).1, rfl⟩
    · exact ⟨HBb.out.size, fun i o _ hi _ => (HBb.out.block i (Array.getElem?_eq_some_iff.1 hi).1).trans hi⟩
    · exact ⟨HBb.out.mono HB.out.size, HBb.out.block _ HV.out.lt⟩
    · exact boxed_keep HV.out HBb.out HV.out.lt
  case body =>
    rintro l pre x a' W hl hr ⟨⟨hz, hvs⟩, hB⟩ ⟨b6, h6, rfl⟩ hlen
    have BX := Lib.hid (B2.out.keep hB)
    have HZ := Lib.hid hz
    have HV := Lib.hid hvs
    have HB := Lib.hid hB
    have e3 := BX.out.b3.cell
    have e4 := BX.out.b4.cell
    have f4 := BX.out.b4.frozen
    have hWs2 := hB.size
    clear hz hvs hB
    obtain ⟨y, hy⟩ : ∃ y, (D.waits.getD x nW).1 = y := ⟨_, rfl⟩
    obtain ⟨Y, hY⟩ : ∃ Y, D.waits.getD x nW = Y := ⟨_, rfl⟩
    rw [hy] at h6
    rw [hY]
    have HY := Lib.hid hy
    clear hy hY
    by_cases hxa : (y : Int) = a
    · have hq : ((y : Int) == a) = true := by rw [hxa]; simp
      have HX := Lib.hid hxa
      clear hxa
      gi_wp2
      refine ⟨(KeepsOthers.setCell _ _ _).from _, ⟨rfl, pre, x, rfl, HZ.out, by rw [HY.out]; exact HX.out, BX.out.b4.set _⟩, BX.out.bw.setCell (p := ⟨w.heap.size + 1, 0, none⟩) (by simp) _⟩
    · have hq : ((y : Int) == a) = false := by simpa using hxa
      have HX := Lib.hid hxa
      clear hxa
      gi_wp2
      refine ⟨KeepsFrom.refl _ _, KpN.refl _ _ _, ⟨⟨fun z hz => ?_, HV.out⟩, HB.out⟩⟩
      rcases List.mem_append.1 hz with h1 | h1
      · exact HZ.out z h1
      · rw [List.mem_singleton.1 h1, HY.out]
        exact HX.out
  case done =>
    rintro D' ys W hD rfl ⟨⟨hz, hvs⟩, hB⟩ hK
    have BX := Lib.hid (B2.out.keep hB)
    have e4 := BX.out.b4.cell
    have f4 := BX.out.b4.frozen
    have hn : lastK D.waits a D.waits.length = none := lastK_nil fun j hj => hz _ (bk_mem _ 0 j (Nat.zero_le _) hj)
    have HN := Lib.hid hn
    have HK := Lib.hid hK
    have hWs2 := hB.size
    clear hn hK hz hvs hB
    gi_wp2
    have hK' := (KeepsOthers.setCell W ⟨w.heap.size + 1, 0, none⟩ (.int .i64 (-1))).same D' _ HK.out rfl
    refine ⟨by simp, .inl ⟨_, _, rfl, run_takeDeferred hK', ?_⟩⟩
    refine last_leaves rfl (cell_kept (BX.out.b4.set (.int .i64 (-1))).cell (grownBy_putObj' _ D' (.deferred none)) (fun r e => by cases e; exact ⟨_, hK', rfl⟩)) ⟨by rw [HN.out]; rfl, ?_⟩
    exact (BX.out.bw.setCell (p := ⟨w.heap.size + 1, 0, none⟩) (by simp) _).trans (belowK_b (w := wl) (by omega) _ D' _ _ (by omega) hK' rfl rfl)
  case stop =>
    rintro D' c pre W hD ⟨k, hk, rfl⟩ ⟨⟨rfl, ini, last, e1, e2, e3, b4⟩, hB⟩ hK
    have hkl : k < D.waits.length := by
      rcases Nat.lt_or_ge k D.waits.length with h | h
      · exact h
      · have : (bk D.waits.length k).length = 0 := by rw [bk_length]; omega
        rw [e1] at this
        simp at this
    rw [bk_succ _ k hkl] at e1
    obtain ⟨rfl, e5⟩ := List.append_inj' e1 rfl
    obtain rfl : k = last := by simpa using e5
    have hn : lastK D.waits a D.waits.length = some k := lastK_of hkl e3 fun j h1 h2 => e2 _ (bk_mem _ (k + 1) j (by omega) h2)
    have HN := Lib.hid hn
    clear e1 e5 hn e2 e3
    gi_wp2
    refine ⟨by simp, .inl ⟨_, _, rfl, run_takeDeferred hK, ?_⟩⟩
    refine last_leaves rfl (cell_kept b4.cell (grownBy_putObj' _ D' (.deferred none)) (fun r e => by cases e; exact ⟨_, hK, rfl⟩)) ⟨by rw [HN.out]; rfl, ?_⟩
    exact hB.trans (belowK_b (w := wl) (by omega) _ D' _ _ (by omega) hK rfl rfl)

end Go.Proofs.Ytdnhlpddnbholaa
