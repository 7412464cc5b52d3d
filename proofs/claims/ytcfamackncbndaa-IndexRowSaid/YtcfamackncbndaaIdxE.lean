/-
  index.numbers: the iterator, and its contract.
-/
import Derived.Test.YtcfamackncbndaaIdxD
import Derived.RangeFuncNested
import Derived.RangeFuncBound
import Derived.RangeFuncCalls
import Derived.RangeFuncLeaves
import Derived.RangeFuncBox
import Derived.Shelf.Abstract
import Derived.OwnWalkIn
import Derived.TacticsInMore
import Derived.LoopNIn
import Derived.LoopIn
import Derived.Maps.AppendAt
namespace Go.Proofs.Ytcfamackncbndaa
open Go.RowKit Go.Shelf
set_option linter.unusedVariables false
attribute [local go_sem] Oper.semAt_some

/-- What a body has at place j, with the place. -/
def nat_ (b : List UInt8) (j : Nat) : Nat × UInt16 := (j, UInt16.ofNat (numAt b j))
def upto (b : List UInt8) (k : Nat) : List (Nat × UInt16) := (List.range k).map (nat_ b)
theorem upto_succ (b : List UInt8) (k : Nat) : upto b (k + 1) = upto b k ++ [nat_ b k] := by simp [upto, List.range_succ]
theorem upto_length (b : List UInt8) (k : Nat) : (upto b k).length = k := by simp [upto]

/-- What a round keeps: what lay below n₁, and the box Bs. -/
def KpN (n₁ Bs : Nat) (W W' : World) : Prop := Below n₁ W W' ∧ W'.heap[Bs]? = W.heap[Bs]?
theorem KpN.trans {n₁ Bs : Nat} {A B C : World} (h : KpN n₁ Bs A B) (k : KpN n₁ Bs B C) : KpN n₁ Bs A C := ⟨h.1.trans k.1, k.2.trans h.2⟩
theorem KpN.refl (n₁ Bs : Nat) (A : World) : KpN n₁ Bs A A := ⟨Below.refl _ _, rfl⟩
theorem KpN.cell {n₁ Bs : Nat} {A B : World} (h : KpN n₁ Bs A B) : B.cell? ⟨Bs, 0, none⟩ = A.cell? ⟨Bs, 0, none⟩ := World.cell?_of_block h.2

set_option maxRecDepth 100000 in
set_option maxHeartbeats 2000000 in
theorem num1_in (n : Nat) (hn : 2 ≤ n) (l Bs n₁ g d : Nat) (b : List UInt8) (hg : g < n₁) (hd : 123 ≤ d) (J Jx : List (Nat × UInt16) → World → Prop)
    (hY : ∀ pre x W, J pre W → pre.length < 61 → YieldAt Fence.wide (n - 1) Try.prog l #[.int .i64 (x.1 : Int), .int .u16 (x.2.toNat : Int)] W fun e W' =>
      (e = .returned (.bool true) ∧ J (pre ++ [x]) W' ∧ KpN n₁ Bs W W') ∨ (e = .returned (.bool false) ∧ Jx (pre ++ [x]) W'))
    (W : World) (hBs : W.cell? ⟨Bs, 0, none⟩ = some (.slice (some ⟨g, 0, none⟩) 123 d)) (hm : Mem8 W g 0 123 b) (h0 : J [] W) :
    CallsIn Fence.wide n Try.prog 36 #[.func (.yield l) #[] #[], .pointer (some ⟨Bs, 0, none⟩)] W fun e W' => (∃ v, e = .returned v) ∧
      ((∃ ys, ys = upto b 61 ∧ J ys W') ∨ (∃ pre, (∃ k, k ≤ 61 ∧ pre = upto b k) ∧ Jx pre W')) := by
  refine callsIn_of_wp Try.func36 rfl trivial ?_ rfl
  simp only [Try.ntmps36, List.size_toArray, List.length_cons, List.length_nil, Nat.reduceAdd, Nat.reduceSub, Array.replicate_succ, Array.replicate_zero, List.push_toArray, List.append_toArray, List.nil_append, List.cons_append]
  have HM := Lib.hid hm; clear hm
  gi_wp2
  gi_loopw [6] (fun i wr => ∃ k : Nat, k ≤ 61 ∧ i = .int .i64 k ∧ J (upto b k) wr ∧ KpN n₁ Bs W wr) (fun i _ => 61 - (intOf i).toNat)
  case atStart => exact ⟨0, Nat.zero_le _, rfl, h0, KpN.refl _ _ _⟩
  case round =>
    obtain ⟨k, hk, rfl, hJs, hnx⟩ := hrel
    have hbx := hnx.cell.trans hBs
    by_cases hlt : k < 61
    · obtain ⟨fn, tmps, assign, body, hy, hR⟩ := hY _ (nat_ b k) wr hJs (by rw [upto_length]; exact hlt)
      unfold nat_ at hy
      dsimp only at hy
      have EA : Hid ((1 : Int) + 2 * (k : Int) = ((1 + 2 * k : Nat) : Int)) := Lib.hid (by omega)
      have hM := HM.out.below hnx.1 hg
      have k1 : IntKind.i64.wrap (2 * (k : Int)) = 2 * (k : Int) := IntWalk.i64_in _ (by omega)
      have k2 : IntKind.i64.wrap (1 + 2 * (k : Int)) = 1 + 2 * (k : Int) := IntWalk.i64_in _ (by omega)
      have hNlt := numAt_lt b k
      have e16 : ((UInt16.ofNat (numAt b k)).toNat : Int) = (numAt b k : Int) := by simp; omega
      rw [e16] at hy
      clear e16
      have w16 : IntKind.u16.wrap (numAt b k : Int) = (numAt b k : Int) := IntWalk.u16_in _ (by omega)
      have n1 : 1 ≤ n - 1 := by omega
      gi_wp2
      refine ⟨trivial, fun _ => (by omega), ?_⟩
      rw [EA.out]
      refine (callsIn_wide.2 (get_yes g 0 123 d b (1 + 2 * k) 2 _ hM.reads (by simp only [maxLen]; omega) hd (by omega) (by omega) (by have := hM.len; omega))).mono ?_
      rintro e w' ⟨rfl, rfl⟩
      rw [show num8 ((b.drop (1 + 2 * k)).take 2) = numAt b k from rfl]
      gi_wp2
      refine ⟨fun _ => (by omega), ?_⟩
      refine hR.mono ?_
      rintro e W3 (⟨rfl, hJ3, hk3⟩ | ⟨rfl, hJx3⟩)
      · gi_wp2
        go_roundw
        case rel => exact ⟨k + 1, by omega, by simp, by rw [upto_succ]; exact hJ3, hnx.trans hk3⟩
        case measure => simp [intOf]; omega
      · gi_wp2
        refine bodyPost_ret (results_none rfl _ _ _) rfl ?_
        exact ⟨⟨_, rfl⟩, .inr ⟨_, ⟨k + 1, by omega, (upto_succ _ _).symm⟩, hJx3⟩⟩
    · obtain rfl : k = 61 := by omega
      gi_wp2
      go_end0
      exact ⟨⟨_, rfl⟩, .inl ⟨_, rfl, hJs⟩⟩

theorem num_stops (n : Nat) (hn : 2 ≤ n) (Bs n₁ g d : Nat) (b : List UInt8) (hg : g < n₁) (hd : 123 ≤ d) (w : World) (hBw : Bs < w.heap.size) (hn₁ : n₁ ≤ w.heap.size)
    (hc : w.cell? ⟨Bs, 0, none⟩ = some (.slice (some ⟨g, 0, none⟩) 123 d)) (hm : Mem8 w g 0 123 b) :
    SeqStopsK Fence.wide n Try.prog 36 #[.pointer (some ⟨Bs, 0, none⟩)] (fun x : Nat × UInt16 => #[Value.int .i64 (x.1 : Int), Value.int .u16 (x.2.toNat : Int)]) (KpN n₁ Bs) (fun ys => ys = upto b 61)
      (fun pre => ∃ k, k ≤ 61 ∧ pre = upto b k) 61 w := fun l J Jx W hW _ _ hY h0 =>
  num1_in n hn l Bs n₁ g d b hg hd J Jx hY W ((hW.cell (p := ⟨Bs, 0, none⟩) hBw).trans hc) (hm.below hW (by omega)) h0

theorem numbers_in (n : Nat) (a : Option Addr) (len cap : Nat) (w : World) :
    CallsIn Fence.wide n Try.prog 27 #[.slice a len cap] w fun e w' => e = .returned (.func (.func 36) #[] #[.pointer (some ⟨w.heap.size, 0, none⟩)]) ∧ w' = w.alloc (.cells #[.slice a len cap] 23) := by
  refine callsIn_of_wp Try.func27 rfl trivial ?_ rfl
  simp only [Try.ntmps27, List.size_toArray, List.length_cons, List.length_nil, Nat.reduceAdd, Nat.reduceSub, Array.replicate_succ, Array.replicate_zero, List.push_toArray, List.append_toArray, List.nil_append, List.cons_append]
  gi_wp2
  go_ret
  exact ⟨rfl, rfl⟩

end Go.Proofs.Ytcfamackncbndaa
