/-
  slices.Backward over writes, and its contract.
-/
import Derived.Test.YtdnhlpddnbholaaDkC
import Derived.RangeFuncNested
import Derived.RangeFuncBound
import Derived.RangeFuncCalls
import Derived.RangeFuncLeaves
import Derived.RangeFuncBox
import Derived.Shelf.Abstract
import Derived.OwnWalkIn
import Derived.TacticsInMore
import Derived.LoopNIn
import Derived.LoopIn
import Derived.Maps.AppendAt
namespace Go.Proofs.Ytdnhlpddnbholaa
open Go.RowKit Go.Shelf
set_option linter.unusedVariables false
set_option linter.unusedSimpArgs false
attribute [local go_sem] Oper.semAt_some

/-- The places that come: from the last one down to the k-th one. -/
def bk (N k : Nat) : List Nat := (List.range (N - k)).map fun j => N - 1 - j
theorem bk_succ (N k : Nat) (h : k < N) : bk N k = bk N (k + 1) ++ [k] := by
  unfold bk
  rw [show N - k = (N - (k + 1)) + 1 by omega, List.range_succ, List.map_append, List.map_singleton, show N - 1 - (N - (k + 1)) = k by omega]
theorem bk_length (N k : Nat) : (bk N k).length = N - k := by simp [bk]
theorem bk_mem (N k j : Nat) (h1 : k ≤ j) (h2 : j < N) : j ∈ bk N k := by
  unfold bk
  refine List.mem_map.2 ⟨N - 1 - j, List.mem_range.2 (by omega), ?_⟩
  omega

/-- What a round keeps: what lay below n₁, and the box Bs. -/
def KpN (n₁ Bs : Nat) (W W' : World) : Prop := Below n₁ W W' ∧ W'.heap[Bs]? = W.heap[Bs]?
theorem KpN.trans {n₁ Bs : Nat} {A B C : World} (h : KpN n₁ Bs A B) (k : KpN n₁ Bs B C) : KpN n₁ Bs A C := ⟨h.1.trans k.1, k.2.trans h.2⟩
theorem KpN.refl (n₁ Bs : Nat) (A : World) : KpN n₁ Bs A A := ⟨Below.refl _ _, rfl⟩
theorem KpN.cell {n₁ Bs : Nat} {A B : World} (h : KpN n₁ Bs A B) : B.cell? ⟨Bs, 0, none⟩ = A.cell? ⟨Bs, 0, none⟩ := World.cell?_of_block h.2

/-- A write among others that lie in a row. -/
theorem write_at {w : World} {g : Nat} {l : List (Nat × List UInt8)} (hl : ∀ x ∈ l, x.2.length = 128) (h : CellsAt w g 0 (wcells l)) (k : Nat) (hk : k < l.length) : CellsAt w g (k * 129) (wcell (l.getD k nW)) := by
  have := h.sub (129 * k) 129
  rw [wcells_at l hl k hk, Nat.zero_add, Nat.mul_comm] at this
  exact this
theorem run_load {w : World} {g o : Nat} (x : Nat × List UInt8) (hx : x.2.length = 128) (h : CellsAt w g o (wcell x)) : (Instr.loadAt 83 (.pointer (some ⟨g, o, none⟩))).run Try.prog w = .ok (wval x) w :=
  run_loadAt_mid w g o 83 (wcell x) _ h.rangeO Try.underlying83 rfl (writeinfo x hx)
theorem getD_length {l : List (Nat × List UInt8)} (hl : ∀ x ∈ l, x.2.length = 128) (k : Nat) : (l.getD k nW).2.length = 128 := by
  rw [List.getD_eq_getElem?_getD]
  rcases Nat.lt_or_ge k l.length with hk | hk
  · rw [List.getElem?_eq_getElem hk]
    exact hl _ (List.getElem_mem _)
  · rw [List.getElem?_eq_none hk]
    exact List.length_replicate

theorem wpIn_loadW {F : Fence} {n : Nat} {o : Oper} {a : Act} {w : World} {K : Act → World → Prop} {Q : Exit → Act → World → Prop} (x : Operand) (ho : o.op = .load 83 x) (g off : Nat) (y : Nat × List UInt8) (hy : y.2.length = 128) (hx : a.eval x = .pointer (some ⟨g, off, none⟩)) (hc : CellsAt w g off (wcell y))
    (h : K (a.put o.dst (wval y)) w) : o.wpIn F n Try.prog a w K Q := by
  refine ⟨fun f hf => ?_, ?_⟩
  · simp [Oper.about, ho] at hf
  · rw [Oper.semAt_eq _ _ _ (by simp [ho])]
    have hr := run_load y hy hc
    unfold execOp
    simp only [ho, hx, Sem.run_bind, hr, Result.andThen_ok, Sem.run_pure]
    exact h

set_option maxRecDepth 100000 in
set_option maxHeartbeats 2000000 in
theorem back1_in (n : Nat) (hn : 2 ≤ n) (f Bs n₁ : Nat) (A : Option Addr) (d : Nat) (l : List (Nat × List UInt8)) (hl : ∀ x ∈ l, x.2.length = 128) (hlen : l.length ≤ 1000) (J Jx : List Nat → World → Prop)
    (hY : ∀ pre (x : Nat) W, J pre W → pre.length < l.length → YieldAt Fence.wide (n - 1) Try.prog f #[.int .i64 (x : Int), wval (l.getD x nW)] W fun e W' =>
      (e = .returned (.bool true) ∧ J (pre ++ [x]) W' ∧ KpN n₁ Bs W W') ∨ (e = .returned (.bool false) ∧ Jx (pre ++ [x]) W'))
    (W : World) (hBs : W.cell? ⟨Bs, 0, none⟩ = some (.slice A l.length d)) (hm : 0 < l.length → ∃ g, A = some ⟨g, 0, none⟩ ∧ g < n₁ ∧ CellsAt W g 0 (wcells l)) (h0 : J [] W) :
    CallsIn Fence.wide n Try.prog 45 #[.func (.yield f) #[] #[], .pointer (some ⟨Bs, 0, none⟩)] W fun e W' => (∃ v, e = .returned v) ∧
      ((∃ ys, ys = bk l.length 0 ∧ J ys W') ∨ (∃ pre, (∃ k, k ≤ l.length ∧ pre = bk l.length k) ∧ Jx pre W')) := by
  refine callsIn_of_wp Try.func45 rfl trivial ?_ rfl
  simp only [Try.ntmps45, List.size_toArray, List.length_cons, List.length_nil, Nat.reduceAdd, Nat.reduceSub, Array.replicate_succ, Array.replicate_zero, List.push_toArray, List.append_toArray, List.nil_append, List.cons_append]
  have HM := Lib.hid hm; clear hm
  have HL := Lib.hid hl; clear hl
  gi_wp2
  gi_loopw [3] (fun i wr => ∃ k : Nat, k ≤ l.length ∧ i = .int .i64 ((k : Int) - 1) ∧ J (bk l.length k) wr ∧ KpN n₁ Bs W wr) (fun i _ => (intOf i + 1).toNat)
  case atStart => exact ⟨l.length, Nat.le_refl _, rfl, by simpa [bk] using h0, KpN.refl _ _ _⟩
  case round =>
    obtain ⟨m, hk, rfl, hJs, hnx⟩ := hrel
    have hbx := hnx.cell.trans hBs
    cases m with
    | zero =>
      rw [show ((0 : Nat) : Int) - 1 = -1 from rfl]
      gi_wp2
      go_end0
      exact ⟨⟨_, rfl⟩, .inl ⟨_, rfl, hJs⟩⟩
    | succ k =>
      have hlt : k < l.length := by omega
      have ek : ((k + 1 : Nat) : Int) - 1 = (k : Int) := by omega
      rw [ek]
      obtain ⟨g, rfl, hg, hc⟩ := HM.out (by omega)
      have hld := Lib.hid ((write_at HL.out (⟨Nat.lt_of_lt_of_le hc.lt hnx.1.size, fun j hj => (hnx.1.cell (p := ⟨g, 0 + j, none⟩) hg).trans (hc.cell j hj)⟩ : CellsAt wr g 0 (wcells l)) k hlt))
      obtain ⟨fn, tmps, assign, body, hy, hR⟩ := hY _ k wr hJs (by rw [bk_length]; omega)
      have k0 : (0 : Int) ≤ (k : Int) := by omega
      have n1 : 1 ≤ n - 1 := by omega
      have hkl : (k : Int) < (l.length : Int) := by omega
      have hyl := getD_length HL.out k
      clear ek hk
      obtain ⟨y, hyy⟩ : ∃ y, l.getD k nW = y := ⟨_, rfl⟩
      rw [hyy] at hld hy hyl
      have HYY := Lib.hid hyy
      have HYL := Lib.hid hyl
      clear hyy hyl
      gi_wp2
      refine wpIn_loadW (.tmp 15) rfl g (k * 129) y HYL.out rfl hld.out ?_
      clear hld
      gi_wp2
      refine ⟨fun _ => (by omega), ?_⟩
      refine hR.mono ?_
      rintro e W3 (⟨rfl, hJ3, hk3⟩ | ⟨rfl, hJx3⟩)
      · gi_wp2
        go_roundw
        case rel => exact ⟨k, by omega, by go_num, by rw [bk_succ _ k hlt]; exact hJ3, hnx.trans hk3⟩
        case measure => simp [intOf]
      · gi_wp2
        refine bodyPost_ret (results_none rfl _ _ _) rfl ?_
        exact ⟨⟨_, rfl⟩, .inr ⟨_, ⟨k, by omega, rfl⟩, by rw [bk_succ _ k hlt]; exact hJx3⟩⟩

theorem back_stops (n : Nat) (hn : 2 ≤ n) (Bs n₁ : Nat) (A : Option Addr) (d : Nat) (l : List (Nat × List UInt8)) (hl : ∀ x ∈ l, x.2.length = 128) (hlen : l.length ≤ 1000) (w : World) (hBw : Bs < w.heap.size) (hn₁ : n₁ ≤ w.heap.size)
    (hc : w.cell? ⟨Bs, 0, none⟩ = some (.slice A l.length d)) (hm : 0 < l.length → ∃ g, A = some ⟨g, 0, none⟩ ∧ g < n₁ ∧ CellsAt w g 0 (wcells l)) :
    SeqStopsK Fence.wide n Try.prog 45 #[.pointer (some ⟨Bs, 0, none⟩)] (fun x : Nat => #[Value.int .i64 (x : Int), wval (l.getD x nW)]) (KpN n₁ Bs) (fun ys => ys = bk l.length 0)
      (fun pre => ∃ k, k ≤ l.length ∧ pre = bk l.length k) l.length w := fun f J Jx W hW _ _ hY h0 =>
  back1_in n hn f Bs n₁ A d l hl hlen J Jx hY W ((hW.cell (p := ⟨Bs, 0, none⟩) hBw).trans hc) (fun h => by
    obtain ⟨g, e, hg, hx⟩ := hm h
    exact ⟨g, e, hg, ⟨Nat.lt_of_lt_of_le hx.lt hW.size, fun j hj => (hW.cell (p := ⟨g, 0 + j, none⟩) hx.lt).trans (hx.cell j hj)⟩⟩) h0

theorem backward_in (n : Nat) (a : Option Addr) (len cap : Nat) (w : World) :
    CallsIn Fence.wide n Try.prog 42 #[.slice a len cap] w fun e w' => e = .returned (.func (.func 45) #[] #[.pointer (some ⟨w.heap.size, 0, none⟩)]) ∧ w' = w.alloc (.cells #[.slice a len cap] 73) := by
  refine callsIn_of_wp Try.func42 rfl trivial ?_ rfl
  simp only [Try.ntmps42, List.size_toArray, List.length_cons, List.length_nil, Nat.reduceAdd, Nat.reduceSub, Array.replicate_succ, Array.replicate_zero, List.push_toArray, List.append_toArray, List.nil_append, List.cons_append]
  gi_wp2
  go_ret
  exact ⟨rfl, rfl⟩

end Go.Proofs.Ytdnhlpddnbholaa
