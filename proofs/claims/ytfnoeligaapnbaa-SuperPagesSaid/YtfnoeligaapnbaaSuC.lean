/-
  super.fields: the function that tells the next number; the iterator.
-/
import Derived.Test.YtfnoeligaapnbaaSuB
namespace Go.Proofs.Ytfnoeligaapnbaa
open Go.RowKit Go.Shelf
set_option linter.unusedVariables false
set_option linter.unusedSimpArgs false
attribute [local go_sem] Oper.semAt_some

theorem foff_le (k : Nat) (h : k ≤ 18) : foff k ≤ 108 := by
  have := foff_mono h
  rwa [foff_end] at this

set_option maxRecDepth 100000 in
set_option maxHeartbeats 2000000 in
theorem next_in (n : Nat) (hn : 1 ≤ n) (k l At Yb get : Nat) (f : Fn) (caps : Array Value) (W : World) (R : World → Prop) (hk : k < 18)
    (hAt : W.cell? ⟨At, 0, none⟩ = some (.int .i64 (foff k : Int))) (hfz : W.frozen? ⟨At, 0, none⟩ = false) (hYb : W.cell? ⟨Yb, 0, none⟩ = some (.func (.yield l) #[] #[])) (hne : Yb ≠ At)
    (hY : YieldAt Fence.wide (n - 1) Try.prog l #[.int .i64 (foff k : Int), .agg #[.int .i64 (fsize k : Int), .int .u64 (get : Int), .func f #[] caps]] (W.setCell ⟨At, 0, none⟩ (.int .i64 (foff (k + 1) : Int))) fun e W' => e = .returned (.bool true) ∧ R W') :
    CallsIn Fence.wide n Try.prog 39 #[.int .i64 (fsize k : Int), .int .u64 (get : Int), .func f #[] caps, .pointer (some ⟨At, 0, none⟩), .pointer (some ⟨Yb, 0, none⟩)] W fun e W' => e = .returned (.bool true) ∧ R W' := by
  refine callsIn_of_wp Try.func39 rfl trivial ?_ rfl
  simp only [Try.ntmps39, List.size_toArray, List.length_cons, List.length_nil, Nat.reduceAdd, Nat.reduceSub, Array.replicate_succ, Array.replicate_zero, List.push_toArray, List.append_toArray, List.nil_append, List.cons_append]
  obtain ⟨fn, tmps, assign, body, hy, hR⟩ := hY
  have h1 := foff_le k (by omega)
  have h2 := foff_le (k + 1) (by omega)
  have h3 := foff_succ k
  obtain ⟨x, hx⟩ : ∃ x, x = foff k := ⟨_, rfl⟩
  obtain ⟨y, hy'⟩ : ∃ y, y = foff (k + 1) := ⟨_, rfl⟩
  obtain ⟨z, hz⟩ : ∃ z, z = fsize k := ⟨_, rfl⟩
  rw [← hx] at h1 h3 hy hAt
  rw [← hy'] at h2 h3 hy hR
  rw [← hz] at h3 hy ⊢
  have e1 : (x : Int) + (z : Int) = (y : Int) := by omega
  have e2 : (y : Int) - (z : Int) = (x : Int) := by omega
  clear hx hy' hz h3
  gi_wp2
  refine hR.mono ?_
  rintro e W3 ⟨rfl, hr⟩
  gi_wp2
  go_ret
  exact ⟨rfl, hr⟩

end Go.Proofs.Ytfnoeligaapnbaa
