/-
  Disk.Write.
-/
import Derived.Test.YtdnhlpddnbholaaDkG
namespace Go.Proofs.Ytdnhlpddnbholaa
open Go.RowKit
set_option linter.unusedVariables false
set_option linter.unusedSimpArgs false
attribute [local go_sem ↓] Go.wp_at_zero Go.wp_at_succ

theorem writeinfo3 : (Try.prog.info? 83).map (fun i => (i.zero, i.size, i.bytes)) = some (some (wval nW), 129, 136) := by kernel_rfl
theorem exec_slice1f (k : Nat) (f : Nat → UInt8) (w : World) : (Instr.buildSlice 73 1 #[(0, wval (k, (List.range 128).map f))]).run Try.prog w = .ok (.slice (some ⟨w.heap.size, 0, none⟩) 1 1) (w.alloc (.cells (wcell (k, (List.range 128).map f)).toArray 83)) := by
  kernel_rfl
theorem list128 (l : List UInt8) (h : l.length = 128) : (List.range 128).map (fun i => l.getD i 0) = l := by
  apply List.ext_getElem
  · simp [h]
  · intro i h1 h2
    simp [List.getD, h2]
theorem exec_slice1 (x : Nat × List UInt8) (h : x.2.length = 128) (w : World) : (Instr.buildSlice 73 1 #[(0, wval x)]).run Try.prog w = .ok (.slice (some ⟨w.heap.size, 0, none⟩) 1 1) (w.alloc (.cells (wcell x).toArray 83)) := by
  have := exec_slice1f x.1 (fun i => x.2.getD i 0) w
  rwa [list128 x.2 h] at this
theorem wp_slice1 {op : Oper} {a : Act} {w : World} {K : Act → World → Prop} {Q : Exit → Act → World → Prop} (x : Operand) (ho : op.op = .buildSlice 73 1 #[(0, x)]) (y : Nat × List UInt8) (hy : y.2.length = 128) (hx : a.eval x = wval y)
    (h : K (a.put op.dst (.slice (some ⟨w.heap.size, 0, none⟩) 1 1)) (w.alloc (.cells (wcell y).toArray 83))) : op.wp Try.prog a w K Q := by
  unfold Oper.wp execOp
  simp only [ho, hx, List.map_toArray, List.map_cons, List.map_nil, Sem.run_bind, exec_slice1 y hy, Result.andThen_ok, Sem.run_pure, Oper.upon_value]
  exact h

/-- A write's box whose bytes are filled. -/
theorem box_fill {w W : World} {b k : Nat} {l : List UInt8} (h : MemC w b 0 (wcell (k, List.replicate 128 0))) (hw : Wrote w W b 1 129) (hm : Mem8 W b 1 128 l) : MemC W b 0 (wcell (k, l)) := by
  have hl := hm.len
  have h0 := h.get 0 _ (show (wcell (k, List.replicate 128 0))[0]? = some (.int .i64 (k : Int)) from rfl)
  have hlen : (wcell (k, l)).length = 129 := wcell_length _ hl
  refine ⟨⟨by rw [hw.size]; exact h.at_.lt, fun j hj => ?_⟩, fun j hj => ?_⟩
  · cases j with
    | zero => rw [hw.cell _ (by omega)]; exact h0.1
    | succ j =>
      have := hm.cell j (by omega)
      rw [show 0 + (j + 1) = 1 + j by omega, this]
      simp [wcell, b8]
  · rw [hw.frz]
    exact h.free j (by rw [wcell_length _ (by simp)]; omega)
theorem box_mem {w : World} {b k : Nat} {l : List UInt8} (h : MemC w b 0 (wcell (k, l))) (hl : l.length = 128) : Mem8 w b 1 128 l := by
  have h1 := h.sub 1 128
  rw [Nat.zero_add, show ((wcell (k, l)).drop 1).take 128 = b8 l by simp [wcell, b8, hl, List.take_of_length_le]] at h1
  refine ⟨hl, h1.at_.lt, fun j hj => ?_, fun j hj => h1.free j (by rw [b8_length]; exact hj)⟩
  rw [h1.at_.cell j (by rw [b8_length]; exact hj)]
  simp [b8]
theorem DiskIn.turn {F G : Nat → Prop} {w w' : World} {p q c : Nat} {v : Value} {D : Dk} (h : DiskIn F w p q c v D) (ht : Turn G w w') (hp : ¬ G p) (hq : ¬ G q) (hv : ∀ g, v.ownBlock = some g → ¬ G g) : DiskIn F w' p q c v D :=
  ⟨h.ok, h.head.turn ht hp, h.cap, h.capm, h.blks.turn ht hq, own_turn h.waits ht hv, h.fp, h.fq, h.fv, fun b hb => h.new b (Nat.le_trans ht.size hb), h.pq, h.vp, h.vq⟩
theorem Turn.of_grown {F : Nat → Prop} {w w' : World} {row : Option Nat} (h : w.grownBy w' row) (hr : ∀ g, row = some g → F g) : Turn F w w' := ⟨h.os, h.tape, h.output, h.size, fun k hk hF => h.block k hk fun e => hF (hr k e.symm)⟩
/-- Where a slice lies apart from a block. -/
def Apart (A : Option Addr) (p : Nat) : Prop := ∀ a, A = some a → a.block ≠ p

section
variable {F : Nat → Prop} {p q : Nat} {D : Dk}
theorem write_no (w : World) (h : DiskAt F w p q D) (a : Int) (B : Option Addr) (m d : Nat) (hd : D.down = true ∨ a < 0 ∨ (D.blks.length : Int) ≤ a ∨ m ≠ 128) : Calls Try.prog 18 #[.pointer (some ⟨p, 0, none⟩), .int .i64 a, .slice B m d] w fun e w' => e = .returned (.int .i64 (writeE D a m)) ∧ w = w' := by
  have HM := Lib.hid (may_any w h)
  obtain ⟨c, v, h⟩ := h
  obtain ⟨h0, f0⟩ := h.head.get 0 _ rfl
  clear h
  unfold mayE at HM
  cases hdn : D.down
  · rw [hdn, if_neg (by decide)] at HM
    have ha : a < 0 ∨ (¬ a < 0 ∧ (D.blks.length : Int) ≤ a) ∨ (¬ a < 0 ∧ ¬ (D.blks.length : Int) ≤ a ∧ m ≠ 128) := by
      rcases hd with h | h | h | h
      · rw [hdn] at h; cases h
      · exact .inl h
      · by_cases h2 : a < 0
        · exact .inl h2
        · exact .inr (.inl ⟨h2, h⟩)
      · by_cases h2 : a < 0
        · exact .inl h2
        · by_cases h3 : (D.blks.length : Int) ≤ a
          · exact .inr (.inl ⟨h2, h3⟩)
          · exact .inr (.inr ⟨h2, h3, h⟩)
    rw [show writeE D a m = 2 by
      unfold writeE
      rw [hdn, if_neg (by decide), if_pos]
      rcases ha with h | ⟨_, h⟩ | ⟨_, _, h⟩
      · exact .inl h
      · exact .inr (.inl h)
      · exact .inr (.inr h)]
    clear hdn hd
    rcases ha with ha | ⟨ha, ha2⟩ | ⟨ha, ha2, ha3⟩
    · go_enter Try.func18, Try.ntmps18
      go_wp2_with fail
      refine HM.out.mono ?_
      rintro e w' ⟨rfl, rfl⟩
      go_wp2_with fail
      go_ret
      exact ⟨rfl, rfl⟩
    · go_enter Try.func18, Try.ntmps18
      go_wp2_with fail
      refine HM.out.mono ?_
      rintro e w' ⟨rfl, rfl⟩
      go_wp2_with fail
      go_ret
      exact ⟨rfl, rfl⟩
    · have hm : ((m : Int) != 128) = true := by
        simp only [bne_iff_ne, ne_eq]
        omega
      have hm2 : ¬ m = 128 := ha3
      clear ha3
      go_enter Try.func18, Try.ntmps18
      go_wp2_with fail
      refine HM.out.mono ?_
      rintro e w' ⟨rfl, rfl⟩
      go_wp2_with fail
      go_ret
      exact ⟨rfl, rfl⟩
  · rw [hdn, if_pos rfl] at HM
    rw [show writeE D a m = 20 by simp [writeE, hdn]]
    clear hdn hd
    go_enter Try.func18, Try.ntmps18
    go_wp2_with fail
    refine HM.out.mono ?_
    rintro e w' ⟨rfl, rfl⟩
    go_wp2_with fail
    go_ret
    exact ⟨rfl, rfl⟩

theorem write_dead (w : World) (h : DiskAt F w p q D) (k : Nat) (B : Option Addr) (d : Nat) (hd : D.down = false) (hk : k < D.blks.length) (hl : D.left = 0) : Calls Try.prog 18 #[.pointer (some ⟨p, 0, none⟩), .int .i64 (k : Int), .slice B 128 d] w fun e w' => e = .returned (.int .i64 20) ∧ DiskAt F w' p q (powered D) ∧ Turn F w w' := by
  have HM := Lib.hid (may_any w h)
  have HP := Lib.hid (power_any w h)
  obtain ⟨c, v, h⟩ := h
  obtain ⟨h0, f0⟩ := h.head.get 0 _ rfl
  unfold mayE at HM
  rw [hd, if_neg (by decide)] at HM
  unfold powerE at HP
  rw [if_pos hl] at HP
  have HD := Lib.hid h
  have k0 : ¬ (k : Int) < 0 := by omega
  have k1 : (k : Int) < (D.blks.length : Int) := by omega
  clear h hl
  go_enter Try.func18, Try.ntmps18
  go_wp2_with fail
  refine HM.out.mono ?_
  rintro e w' ⟨rfl, rfl⟩
  go_wp2_with fail
  refine HP.out.mono ?_
  rintro e w1 ⟨rfl, _, _, ht, hD⟩
  have HT := Lib.hid ht
  have HX := Lib.hid (hD _ _ _ HD.out)
  clear ht hD
  go_wp2_with fail
  go_ret
  exact ⟨rfl, ⟨_, _, HX.out⟩, HT.out⟩

set_option maxRecDepth 100000 in
set_option maxHeartbeats 2000000 in
theorem write_yes (w : World) (h : DiskAt F w p q D) (k : Nat) (B : Option Addr) (d : Nat) (b : List UInt8) (hr : Reads8 w B 128 b) (hap : Apart B p) (hfew : D.waits.length < 1000) (hd : D.down = false) (hk : k < D.blks.length) (hl : D.left ≠ 0) :
    Calls Try.prog 18 #[.pointer (some ⟨p, 0, none⟩), .int .i64 (k : Int), .slice B 128 d] w fun e w' => e = .returned (.int .i64 0) ∧ DiskAt F w' p q { powered D with waits := D.waits ++ [(k, b)] } ∧ Turn F w w' := by
  have HM := Lib.hid (may_any w h)
  have HP := Lib.hid (power_any w h)
  rw [← (powered_keeps D).2]
  have hok := written_ok (by obtain ⟨c, v, h⟩ := h; exact h.ok) (k : Int) b hfew
  have hbl : b.length = 128 := hr.1
  have hwr : written D (k : Int) b = { powered D with waits := D.waits ++ [(k, b)] } := by
    unfold written
    rw [hd, if_neg (by decide), if_neg (by omega), if_neg hl]
    rfl
  rw [hwr, ← (powered_keeps D).2] at hok
  rw [← (powered_keeps D).2] at hfew
  obtain ⟨c, v, h⟩ := h
  obtain ⟨h0, f0⟩ := h.head.get 0 _ rfl
  unfold mayE at HM
  rw [hd, if_neg (by decide)] at HM
  unfold powerE at HP
  rw [if_neg hl] at HP
  have HD := Lib.hid h
  have HOK := Lib.hid hok
  have HR := Lib.hid hr
  have HL := Lib.hid hbl
  have HF := Lib.hid hfew
  have k0 : ¬ (k : Int) < 0 := by omega
  have k1 : (k : Int) < (D.blks.length : Int) := by omega
  clear h hl hok hwr hr hbl hfew
  generalize powered D = E at *
  go_enter Try.func18, Try.ntmps18
  go_wp2_with fail
  refine HM.out.mono ?_
  rintro e w' ⟨rfl, rfl⟩
  go_wp2_with fail
  refine HP.out.mono ?_
  rintro e w1 ⟨rfl, hs1, ho1, ht, hD⟩
  have T1 := Lib.hid ht
  have D1 := Lib.hid (hD _ _ _ HD.out)
  have hr1 : Reads8 w1 B 128 b := ⟨HR.out.1, fun hn => by
    obtain ⟨bb, o, e, hlt, hc⟩ := HR.out.2 hn
    exact ⟨bb, o, e, by rw [hs1]; exact hlt, fun j hj => (World.cell?_of_block (w := w) (a := ⟨bb, o + j, none⟩) (ho1 bb (hap _ e))).trans (hc j hj)⟩⟩
  have R1 := Lib.hid hr1
  obtain ⟨bb, oo, rfl, _⟩ := hr1.2 (by decide)
  clear ht hD hr1 hs1 ho1 h0 f0 HM HP HD HR
  go_wp2_with (first | ((with_reducible refine wl_build (.tmp 37) ?_ ?_ k ?_ ?_); rfl; rfl; rfl) | (refine wl_new 9 (.tmp 38) rfl rfl rfl (by rfl) (k, List.replicate 128 0) (by simp) rfl rfl (by rfl) ?_))
  intro w2 hb2 hm2 hs2
  have D2 := Lib.hid (D1.out.keep hb2)
  have R2 := Lib.hid (R1.out.keep hb2)
  have T2 := Lib.hid (T1.out.trans (Turn.of_below hb2))
  have X2 := Lib.hid hm2
  have L2 : Hid (p < w1.heap.size ∧ q < w1.heap.size ∧ bb < w1.heap.size) := Lib.hid ⟨D1.out.lt.1, D1.out.lt.2, (R1.out.cellsAt (by decide)).lt⟩
  have V2 : Hid (∀ g, v.ownBlock = some g → g < w1.heap.size) := Lib.hid fun g hg => (D1.out.waits.lt g hg).2
  have FQ := Lib.hid (D1.out.new w1.heap.size (Nat.le_refl _))
  obtain ⟨q9, hq⟩ : ∃ y, y = w1.heap.size := ⟨_, rfl⟩
  rw [← hq] at X2 L2 V2 FQ ⊢
  clear hb2 hm2 hs2 D1 R1 T1 hq
  have hM := box_mem X2.out (by simp)
  have HMm := Lib.hid hM
  have HC := Lib.hid (R2.out.cellsAt (by decide))
  clear hM
  go_wp2_with ((with_reducible refine wl_copy8 (.tmp 40) (.tmp 41) ?_ ?_ q9 1 128 128 bb oo 128 d _ b ?_ ?_ ?_ HMm.out HC.out ?_); rfl; rfl; rfl; rfl; (rw [HL.out]; rfl))
  intro w3 hw3 hm3
  rw [HL.out] at hw3 hm3
  rw [HL.out]
  have ht3 := hw3.turn
  have X3 := Lib.hid (box_fill X2.out (by simpa using hw3) hm3)
  have l1 := L2.out.1
  have l2 := L2.out.2.1
  have D3 := Lib.hid (D2.out.turn ht3 (by omega) (by omega) (fun g hg e => by have := V2.out g hg; omega))
  have T3 := Lib.hid (T2.out.trans (ht3.mono fun k e => by rw [e]; exact FQ.out))
  clear hw3 hm3 ht3 D2 R2 T2 X2 HMm HC l1 l2
  go_upto_region 11 with fail
  have bd : Below w3.heap.size w3 w3.drew := (Below.refl w3.heap.size w3).drew
  have D4 := Lib.hid (D3.out.keep bd)
  have X4 := Lib.hid (X3.out.keep bd)
  have T4 := Lib.hid (T3.out.trans (Turn.of_below bd))
  obtain ⟨W4, hW4⟩ : ∃ W : World, W = w3.drew := ⟨_, rfl⟩
  rw [← hW4] at D4 X4 T4
  refine wp_region_held_drew (S := fun w' => CellsAt w' q9 0 (wcell (k, b))) (by kernel_rfl) (by rw [← hW4]; exact X4.out.at_) (fun hHeld => ?_)
  rw [← hW4] at hHeld ⊢
  clear hW4 bd D3 X3 T3
  refine wpAnyH_take (i := 0) (v := .pointer (some ⟨p, 0, none⟩)) rfl (by kernel_rfl) (by kernel_rfl) (by kernel_rfl) (fun _ _ _ h => h) (Or.inl ⟨by kernel_rfl, fun w _ => by go_simp⟩) hHeld ?_
  try simp only [Act.put, List.getElem_toArray, List.getElem_cons_succ, List.getElem_cons_zero, List.setIfInBounds_toArray, List.set_cons_zero, List.set_cons_succ]
  refine wpAnyH_take (i := 1) (v := .pointer (some ⟨p, 0, none⟩)) rfl (by kernel_rfl) (by kernel_rfl) (by kernel_rfl) (fun _ _ _ h => h) (Or.inl ⟨by kernel_rfl, fun w _ => by go_simp⟩) hHeld ?_
  try simp only [Act.put, List.getElem_toArray, List.getElem_cons_succ, List.getElem_cons_zero, List.setIfInBounds_toArray, List.set_cons_zero, List.set_cons_succ]
  refine wpAnyH_take (i := 2) (v := .pointer (some ⟨p, 0, none⟩)) rfl (by kernel_rfl) (by kernel_rfl) (by kernel_rfl) (fun _ _ _ h => h) (Or.inl ⟨by kernel_rfl, fun w _ => by go_simp⟩) hHeld ?_
  try simp only [Act.put, List.getElem_toArray, List.getElem_cons_succ, List.getElem_cons_zero, List.setIfInBounds_toArray, List.set_cons_zero, List.set_cons_succ]
  refine wpAnyH_take (i := 3) (v := .pointer (some ⟨p, 1, none⟩)) rfl (by kernel_rfl) (by kernel_rfl) (by kernel_rfl) (fun _ _ _ h => h) (Or.inl ⟨by kernel_rfl, fun w _ => by go_simp⟩) hHeld ?_
  try simp only [Act.put, List.getElem_toArray, List.getElem_cons_succ, List.getElem_cons_zero, List.setIfInBounds_toArray, List.set_cons_zero, List.set_cons_succ]
  refine wpAnyH_take (i := 4) (v := .pointer (some ⟨p, 1, none⟩)) rfl (by kernel_rfl) (by kernel_rfl) (by kernel_rfl) (fun _ _ _ h => h) (Or.inl ⟨by kernel_rfl, fun w _ => by go_simp⟩) hHeld ?_
  try simp only [Act.put, List.getElem_toArray, List.getElem_cons_succ, List.getElem_cons_zero, List.setIfInBounds_toArray, List.set_cons_zero, List.set_cons_succ]
  refine wpAnyH_take (i := 6) (v := wval (k, b)) rfl (by kernel_rfl) (by kernel_rfl) (by kernel_rfl) (fun _ _ _ h => h) (yieldsIf_load_mid (by rfl) 83 (.tmp 9) rfl q9 0 rfl (wcell (k, b)) _ (fun w h => h.rangeO) Try.underlying83 rfl (writeinfo (k, b) HL.out)) hHeld ?_
  try simp only [Act.put, List.getElem_toArray, List.getElem_cons_succ, List.getElem_cons_zero, List.setIfInBounds_toArray, List.set_cons_zero, List.set_cons_succ]
  refine wpAnyH_ready (rs := [5, 7]) (by kernel_rfl) (by simp) ?_
  refine AllReadyH.cons rfl (fun K hK => ?_) (AllReadyH.cons rfl (fun K hK => ?_) AllReadyH.nil)
  · obtain ⟨c1, _⟩ := D4.out.head.get 1 _ rfl
    go_simp
    refine hK.out _ _ hHeld (fun hHeld => ?_)
    try simp only [Act.put, List.getElem_toArray, List.getElem_cons_succ, List.getElem_cons_zero, List.setIfInBounds_toArray, List.set_cons_zero, List.set_cons_succ]
    refine wpAnyH_ready (rs := [7]) (by kernel_rfl) (by simp) ?_
    refine AllReadyH.cons rfl (fun K hK => ?_) AllReadyH.nil
    rw [if_pos (show Region.wanted _ _ = true by kernel_rfl)]
    refine wp_slice1 (.tmp 49) rfl (k, b) HL.out rfl ?_
    have ba : Below W4.heap.size W4 (W4.alloc (.cells (wcell (k, b)).toArray 83)) := (Below.refl _ W4).alloc (Nat.le_refl _) _
    have D5 := Lib.hid (D4.out.keep ba)
    have X5 := Lib.hid (X4.out.keep ba)
    have T5 := Lib.hid (T4.out.trans (Turn.of_below ba))
    have N5 := Lib.hid (MemC.new W4 (wcell (k, b)) 83)
    have hlt5 : q9 < W4.heap.size := X4.out.at_.lt
    obtain ⟨W5, hW5⟩ : ∃ W : World, W = W4.alloc (.cells (wcell (k, b)).toArray 83) := ⟨_, rfl⟩
    rw [← hW5] at D5 X5 T5 N5 ⊢
    refine hK.out _ _ X5.out.at_ (fun hHeld => ?_)
    try simp only [Act.put, List.getElem_toArray, List.getElem_cons_succ, List.getElem_cons_zero, List.setIfInBounds_toArray, List.set_cons_zero, List.set_cons_succ]
    generalize W4.heap.size = gn at *
    clear hW5
    refine wpAnyH_ready (rs := [8]) (by kernel_rfl) (by simp) ?_
    refine AllReadyH.cons rfl (fun K hK => ?_) AllReadyH.nil
    rw [if_pos (show Region.wanted _ _ = true by kernel_rfl)]
    refine wp_appendC (.tmp 48) (.tmp 50) 73 rfl 0 83 (wval nW) 129 136 Try.underlying73 writeinfo3 (by kernel_rfl) (by omega) v E.waits.length (wcells E.waits) rfl D5.out.waits (some ⟨gn, 0, none⟩) 1 1 (wcell (k, b)) rfl (by rw [wcell_length _ HL.out]) N5.out.cells (wcell_one _) (by have := HF.out; simp only [maxLen]; omega) (by have := HF.out; omega) (Nat.zero_le _) ?_
    intro v' W6 hown hgrow hnil hblk
    have hv' : v' ≠ .slice none 0 0 := fun e => by have := (hnil.1 e).2; omega
    obtain ⟨g', cap', rfl, _, hn', hm', _⟩ := own_shapeC hown hv'
    have hp6 : some p ≠ v.ownBlock := fun e => D5.out.vp e.symm
    have hq6 : some q ≠ v.ownBlock := fun e => D5.out.vq e.symm
    have h96 : some q9 ≠ v.ownBlock := fun e => by have := V2.out q9 e.symm; omega
    have lp := D5.out.lt
    have hG : Turn (fun j => some j = v.ownBlock) W5 W6 := Turn.of_grown hgrow fun g hg => hg.symm
    have H6 := D5.out.head.turn hG hp6
    have Q6 := D5.out.blks.turn hG hq6
    have X6 := X5.out.turn hG h96
    have T6 := Lib.hid (T5.out.trans (hG.mono fun j hj => D5.out.fv j hj.symm))
    have hfv : ∀ g, (Value.slice (some ⟨g', 0, none⟩) (E.waits.length + 1) cap').ownBlock = some g → F g ∧ g ≠ p ∧ g ≠ q := fun g hg => by
      rcases hblk with h | h
      · rw [h] at hg; exact ⟨D5.out.fv g hg, fun e => D5.out.vp (by rw [hg, e]), fun e => D5.out.vq (by rw [hg, e])⟩
      · rw [h] at hg; injection hg with hg; exact ⟨by rw [← hg]; exact D5.out.new _ (Nat.le_refl _), by omega, by omega⟩
    refine hK.out _ _ X6.at_ (fun hHeld => ?_)
    try simp only [Act.put, List.getElem_toArray, List.getElem_cons_succ, List.getElem_cons_zero, List.setIfInBounds_toArray, List.set_cons_zero, List.set_cons_succ]
    refine wpAnyH_take (i := 9) (v := .pointer (some ⟨p, 0, none⟩)) rfl (by kernel_rfl) (by kernel_rfl) (by kernel_rfl) (fun _ _ _ h => h) (Or.inl ⟨by kernel_rfl, fun w _ => by go_simp⟩) hHeld ?_
    try simp only [Act.put, List.getElem_toArray, List.getElem_cons_succ, List.getElem_cons_zero, List.setIfInBounds_toArray, List.set_cons_zero, List.set_cons_succ]
    refine wpAnyH_take (i := 10) (v := .pointer (some ⟨p, 1, none⟩)) rfl (by kernel_rfl) (by kernel_rfl) (by kernel_rfl) (fun _ _ _ h => h) (Or.inl ⟨by kernel_rfl, fun w _ => by go_simp⟩) hHeld ?_
    try simp only [Act.put, List.getElem_toArray, List.getElem_cons_succ, List.getElem_cons_zero, List.setIfInBounds_toArray, List.set_cons_zero, List.set_cons_succ]
    refine wpAnyH_take (i := 11) (v := .pointer (some ⟨p, 1, none⟩)) rfl (by kernel_rfl) (by kernel_rfl) (by kernel_rfl) (fun _ _ _ h => h) (Or.inl ⟨by kernel_rfl, fun w _ => by go_simp⟩) hHeld ?_
    try simp only [Act.put, List.getElem_toArray, List.getElem_cons_succ, List.getElem_cons_zero, List.setIfInBounds_toArray, List.set_cons_zero, List.set_cons_succ]
    have h1p := H6.get 1 _ rfl
    obtain ⟨c6, f6⟩ := h1p
    refine wpAnyH_ready (rs := [12]) (by kernel_rfl) (by simp) ?_
    refine AllReadyH.cons rfl (fun K hK => ?_) AllReadyH.nil
    go_simp
    have hset := Turn.set (F := fun j => j = p) W6 (i := 1) rfl (Value.slice (some ⟨g', 0, none⟩) (E.waits.length + 1) cap')
    have lpq := D5.out.pq
    have l1 := L2.out.1
    have X7 := X6.turn hset (by omega)
    refine hK.out _ _ X7.at_ (fun hHeld => ?_)
    try simp only [Act.put, List.getElem_toArray, List.getElem_cons_succ, List.getElem_cons_zero, List.setIfInBounds_toArray, List.set_cons_zero, List.set_cons_succ]
    refine wpAnyH_done (by kernel_rfl) ?_ _
    have HFIN : Hid (DiskIn F (W6.setCell ⟨p, 1, none⟩ (.slice (some ⟨g', 0, none⟩) (E.waits.length + 1) cap')) p q c (.slice (some ⟨g', 0, none⟩) (E.waits.length + 1) cap') { E with waits := E.waits ++ [(k, b)] }) := Lib.hid ⟨HOK.out, H6.setAt 1 (by simp) _, D5.out.cap, D5.out.capm, Q6.turn hset (fun e => lpq e.symm), by
      have := own_turn hown hset (fun g hg => (hfv g hg).2.1)
      rw [← wcells_one (k, b), ← wcells_append] at this
      simpa using this, D5.out.fp, D5.out.fq, fun g hg => (hfv g hg).1, fun j hj => D5.out.new j (Nat.le_trans (Nat.le_trans hG.size hset.size) hj), lpq, fun e => (hfv _ e).2.1 rfl, fun e => (hfv _ e).2.2 rfl⟩
    have HT := Lib.hid (T6.out.trans (Turn.set W6 D5.out.fp (i := 1) (Value.slice (some ⟨g', 0, none⟩) (E.waits.length + 1) cap')))
    clear hHeld X7 hset h96 hG H6 Q6 X6 c6 f6 hown hgrow hnil hblk hfv
    go_wp2_with fail
    go_ret
    exact ⟨rfl, ⟨_, _, HFIN.out⟩, HT.out⟩
  · rw [if_pos (show Region.wanted _ _ = true by kernel_rfl)]
    refine wp_slice1 (.tmp 49) rfl (k, b) HL.out rfl ?_
    have ba : Below W4.heap.size W4 (W4.alloc (.cells (wcell (k, b)).toArray 83)) := (Below.refl _ W4).alloc (Nat.le_refl _) _
    have D5 := Lib.hid (D4.out.keep ba)
    have X5 := Lib.hid (X4.out.keep ba)
    have T5 := Lib.hid (T4.out.trans (Turn.of_below ba))
    have N5 := Lib.hid (MemC.new W4 (wcell (k, b)) 83)
    have hlt5 : q9 < W4.heap.size := X4.out.at_.lt
    obtain ⟨W5, hW5⟩ : ∃ W : World, W = W4.alloc (.cells (wcell (k, b)).toArray 83) := ⟨_, rfl⟩
    rw [← hW5] at D5 X5 T5 N5 ⊢
    refine hK.out _ _ X5.out.at_ (fun hHeld => ?_)
    try simp only [Act.put, List.getElem_toArray, List.getElem_cons_succ, List.getElem_cons_zero, List.setIfInBounds_toArray, List.set_cons_zero, List.set_cons_succ]
    generalize W4.heap.size = gn at *
    clear hW5
    refine wpAnyH_ready (rs := [5]) (by kernel_rfl) (by simp) ?_
    refine AllReadyH.cons rfl (fun K hK => ?_) AllReadyH.nil
    obtain ⟨c1, _⟩ := D5.out.head.get 1 _ rfl
    go_simp
    refine hK.out _ _ hHeld (fun hHeld => ?_)
    try simp only [Act.put, List.getElem_toArray, List.getElem_cons_succ, List.getElem_cons_zero, List.setIfInBounds_toArray, List.set_cons_zero, List.set_cons_succ]
    refine wpAnyH_ready (rs := [8]) (by kernel_rfl) (by simp) ?_
    refine AllReadyH.cons rfl (fun K hK => ?_) AllReadyH.nil
    rw [if_pos (show Region.wanted _ _ = true by kernel_rfl)]
    refine wp_appendC (.tmp 48) (.tmp 50) 73 rfl 0 83 (wval nW) 129 136 Try.underlying73 writeinfo3 (by kernel_rfl) (by omega) v E.waits.length (wcells E.waits) rfl D5.out.waits (some ⟨gn, 0, none⟩) 1 1 (wcell (k, b)) rfl (by rw [wcell_length _ HL.out]) N5.out.cells (wcell_one _) (by have := HF.out; simp only [maxLen]; omega) (by have := HF.out; omega) (Nat.zero_le _) ?_
    intro v' W6 hown hgrow hnil hblk
    have hv' : v' ≠ .slice none 0 0 := fun e => by have := (hnil.1 e).2; omega
    obtain ⟨g', cap', rfl, _, hn', hm', _⟩ := own_shapeC hown hv'
    have hp6 : some p ≠ v.ownBlock := fun e => D5.out.vp e.symm
    have hq6 : some q ≠ v.ownBlock := fun e => D5.out.vq e.symm
    have h96 : some q9 ≠ v.ownBlock := fun e => by have := V2.out q9 e.symm; omega
    have lp := D5.out.lt
    have hG : Turn (fun j => some j = v.ownBlock) W5 W6 := Turn.of_grown hgrow fun g hg => hg.symm
    have H6 := D5.out.head.turn hG hp6
    have Q6 := D5.out.blks.turn hG hq6
    have X6 := X5.out.turn hG h96
    have T6 := Lib.hid (T5.out.trans (hG.mono fun j hj => D5.out.fv j hj.symm))
    have hfv : ∀ g, (Value.slice (some ⟨g', 0, none⟩) (E.waits.length + 1) cap').ownBlock = some g → F g ∧ g ≠ p ∧ g ≠ q := fun g hg => by
      rcases hblk with h | h
      · rw [h] at hg; exact ⟨D5.out.fv g hg, fun e => D5.out.vp (by rw [hg, e]), fun e => D5.out.vq (by rw [hg, e])⟩
      · rw [h] at hg; injection hg with hg; exact ⟨by rw [← hg]; exact D5.out.new _ (Nat.le_refl _), by omega, by omega⟩
    refine hK.out _ _ X6.at_ (fun hHeld => ?_)
    try simp only [Act.put, List.getElem_toArray, List.getElem_cons_succ, List.getElem_cons_zero, List.setIfInBounds_toArray, List.set_cons_zero, List.set_cons_succ]
    refine wpAnyH_take (i := 9) (v := .pointer (some ⟨p, 0, none⟩)) rfl (by kernel_rfl) (by kernel_rfl) (by kernel_rfl) (fun _ _ _ h => h) (Or.inl ⟨by kernel_rfl, fun w _ => by go_simp⟩) hHeld ?_
    try simp only [Act.put, List.getElem_toArray, List.getElem_cons_succ, List.getElem_cons_zero, List.setIfInBounds_toArray, List.set_cons_zero, List.set_cons_succ]
    refine wpAnyH_take (i := 10) (v := .pointer (some ⟨p, 1, none⟩)) rfl (by kernel_rfl) (by kernel_rfl) (by kernel_rfl) (fun _ _ _ h => h) (Or.inl ⟨by kernel_rfl, fun w _ => by go_simp⟩) hHeld ?_
    try simp only [Act.put, List.getElem_toArray, List.getElem_cons_succ, List.getElem_cons_zero, List.setIfInBounds_toArray, List.set_cons_zero, List.set_cons_succ]
    refine wpAnyH_take (i := 11) (v := .pointer (some ⟨p, 1, none⟩)) rfl (by kernel_rfl) (by kernel_rfl) (by kernel_rfl) (fun _ _ _ h => h) (Or.inl ⟨by kernel_rfl, fun w _ => by go_simp⟩) hHeld ?_
    try simp only [Act.put, List.getElem_toArray, List.getElem_cons_succ, List.getElem_cons_zero, List.setIfInBounds_toArray, List.set_cons_zero, List.set_cons_succ]
    have h1p := H6.get 1 _ rfl
    obtain ⟨c6, f6⟩ := h1p
    refine wpAnyH_ready (rs := [12]) (by kernel_rfl) (by simp) ?_
    refine AllReadyH.cons rfl (fun K hK => ?_) AllReadyH.nil
    go_simp
    have hset := Turn.set (F := fun j => j = p) W6 (i := 1) rfl (Value.slice (some ⟨g', 0, none⟩) (E.waits.length + 1) cap')
    have lpq := D5.out.pq
    have l1 := L2.out.1
    have X7 := X6.turn hset (by omega)
    refine hK.out _ _ X7.at_ (fun hHeld => ?_)
    try simp only [Act.put, List.getElem_toArray, List.getElem_cons_succ, List.getElem_cons_zero, List.setIfInBounds_toArray, List.set_cons_zero, List.set_cons_succ]
    refine wpAnyH_done (by kernel_rfl) ?_ _
    have HFIN : Hid (DiskIn F (W6.setCell ⟨p, 1, none⟩ (.slice (some ⟨g', 0, none⟩) (E.waits.length + 1) cap')) p q c (.slice (some ⟨g', 0, none⟩) (E.waits.length + 1) cap') { E with waits := E.waits ++ [(k, b)] }) := Lib.hid ⟨HOK.out, H6.setAt 1 (by simp) _, D5.out.cap, D5.out.capm, Q6.turn hset (fun e => lpq e.symm), by
      have := own_turn hown hset (fun g hg => (hfv g hg).2.1)
      rw [← wcells_one (k, b), ← wcells_append] at this
      simpa using this, D5.out.fp, D5.out.fq, fun g hg => (hfv g hg).1, fun j hj => D5.out.new j (Nat.le_trans (Nat.le_trans hG.size hset.size) hj), lpq, fun e => (hfv _ e).2.1 rfl, fun e => (hfv _ e).2.2 rfl⟩
    have HT := Lib.hid (T6.out.trans (Turn.set W6 D5.out.fp (i := 1) (Value.slice (some ⟨g', 0, none⟩) (E.waits.length + 1) cap')))
    clear hHeld X7 hset h96 hG H6 Q6 X6 c6 f6 hown hgrow hnil hblk hfv
    go_wp2_with fail
    go_ret
    exact ⟨rfl, ⟨_, _, HFIN.out⟩, HT.out⟩
end

end Go.Proofs.Ytdnhlpddnbholaa
