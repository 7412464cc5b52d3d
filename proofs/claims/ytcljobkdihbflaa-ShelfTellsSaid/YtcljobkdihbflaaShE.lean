/-
  The pen: (*shelf.pen).get; slices.ContainsFunc with shelf.Decode's test.
-/
import Derived.Test.YtcljobkdihbflaaShD
import Derived.BigQuiet
namespace Go.Proofs.Ytcljobkdihbflaa
open Go.RowKit
set_option linter.unusedVariables false
attribute [local go_sem ↓] Go.wp_at_zero Go.wp_at_succ

theorem MemC.setAt {w : World} {P : Nat} {xs : List Value} (h : MemC w P 0 xs) (i : Nat) (hi : i < xs.length) (v : Value) : MemC (w.setCell ⟨P, i, none⟩ v) P 0 (xs.set i v) := by
  refine ⟨⟨by simpa [World.setCell] using h.at_.lt, fun j hj => ?_⟩, fun j hj => ?_⟩
  · rw [Nat.zero_add]
    have hj' : j < xs.length := by simpa using hj
    have hc := h.at_.cell j hj'
    rw [Nat.zero_add] at hc
    by_cases e : i = j
    · subst e
      rw [List.getElem_set_self]
      exact World.cell?_setCell_same' _ _ _ (by rw [hc]; rfl)
    · rw [List.getElem_set_ne e]
      exact (World.cell?_setCell_other w ⟨P, i, none⟩ ⟨P, j, none⟩ v (fun e2 => by injection e2 with _ e3; exact e e3)).trans hc
  · rw [World.frozen?_setCell]
    exact h.free j (by simpa using hj)
theorem MemC.get {w : World} {P : Nat} {xs : List Value} (h : MemC w P 0 xs) (i : Nat) (v : Value) (hv : xs[i]? = some v) : w.cell? ⟨P, i, none⟩ = some v ∧ w.frozen? ⟨P, i, none⟩ = false := by
  obtain ⟨hi, rfl⟩ := List.getElem?_eq_some_iff.1 hv
  have h1 := h.at_.cell i hi
  have h2 := h.free i hi
  rw [Nat.zero_add] at h1 h2
  exact ⟨h1, h2⟩

/-- The pen's two cells, and its body: read up to k. -/
structure PenR (w : World) (P g d : Nat) (b : List UInt8) (k : Nat) : Prop where
  pen : MemC w P 0 [.slice (some ⟨g, 0, none⟩) 123 d, .int .i64 (k : Int)]
  mem : Mem8 w g 0 123 b
  ne : P ≠ g
  cap : 123 ≤ d
theorem PenR.keep {w w' : World} {P g d k : Nat} {b : List UInt8} (h : PenR w P g d b k) (hb : Below w.heap.size w w') : PenR w' P g d b k := ⟨h.pen.keep hb, h.mem.keep hb, h.ne, h.cap⟩
theorem PenR.below {w w' : World} {B P g d k : Nat} {b : List UInt8} (h : PenR w P g d b k) (hb : Below B w w') (hP : P < B) (hg : g < B) : PenR w' P g d b k :=
  ⟨⟨⟨Nat.lt_of_lt_of_le h.pen.at_.lt hb.size, fun j hj => (hb.cell (p := ⟨P, 0 + j, none⟩) hP).trans (h.pen.at_.cell j hj)⟩, fun j hj => (hb.frozen (p := ⟨P, 0 + j, none⟩) hP).trans (h.pen.free j hj)⟩, h.mem.below hb hg, h.ne, h.cap⟩

set_option maxHeartbeats 1000000 in
theorem penget (P g d k : Nat) (b : List UInt8) (size : Nat) (w : World) (h : PenR w P g d b k) (h1 : 1 ≤ size) (h2 : size ≤ 8) (h3 : k + size ≤ 123) :
    Calls Try.prog 24 #[.pointer (some ⟨P, 0, none⟩), .int .i64 (size : Int)] w fun e w' => e = .returned (.int .u64 (numAt b k size : Int)) ∧ PenR w' P g d b (k + size) ∧ Only w w' P P := by
  have c0 := (h.pen.get 0 _ rfl).1
  have c1 := (h.pen.get 1 _ rfl).1
  have H := Lib.hid h; clear h
  have k1 : IntKind.i64.wrap ((k : Int) + (size : Int)) = (k : Int) + (size : Int) := IntWalk.i64_in _ (by omega)
  go_enter Try.func24, Try.ntmps24
  go_wp2_with fail
  go_quiet ((go_at_call 39; exact Calls.quiet_of_same ((get_yes g 0 123 d b k size _ (H.out.mem.drewN _).reads (by simp only [maxLen]; omega) H.out.cap h1 h2 h3).mono fun e w' ⟨a, b⟩ => ⟨a, b.symm⟩)))
  rw [show num8 ((b.drop k).take size) = numAt b k size from rfl]
  have c2 : (w.drewN nq).frozen? ⟨P, 1, none⟩ = false := (H.out.pen.get 1 _ rfl).2
  go_wp2_with fail
  go_ret
  have ho : Only w ((w.drewN nq).setCell ⟨P, 1, none⟩ (.int .i64 ((k : Int) + (size : Int)))) P P := by
    have := Only.set (w.drewN nq) P P 1 (.int .i64 ((k : Int) + (size : Int)))
    exact ⟨this.os, this.tape, this.output, this.size, this.other⟩
  refine ⟨rfl, ⟨?_, (H.out.mem.drewN nq).other (Below.heap_setCell _ _ _ _ (fun e => H.out.ne e.symm)) (by simp [World.setCell]), H.out.ne, H.out.cap⟩, ho⟩
  have e : ((k + size : Nat) : Int) = (k : Int) + (size : Int) := by omega
  rw [e]
  exact (H.out.pen.drewN nq).setAt 1 (by simp) _

theorem decode1 (x : UInt8) (w : World) : Calls Try.prog 26 #[.int .u8 (x.toNat : Int)] w fun e w' => e = .returned (.bool (x != 0)) ∧ w = w' := by
  have e : ((x.toNat : Int) != 0) = (x != 0) := by
    rw [Bool.eq_iff_iff]; simp; constructor
    · intro h e; exact h (by rw [e]; rfl)
    · intro h e; exact h (UInt8.toNat_inj.1 (by show x.toNat = 0; omega))
  rw [← e]
  clear e
  go_enter Try.func26, Try.ntmps26
  go_wp2
  go_ret
  exact ⟨rfl, rfl⟩

set_option maxHeartbeats 1000000 in
theorem ixf_any (A : Option Addr) (n c : Nat) (l : List UInt8) (w : World) (h : Reads8 w A n l) (hn : n ≤ maxLen) :
    Calls Try.prog 41 #[.slice A n c, .func (.func 26) #[] #[]] w fun e w' => (∃ i : Int, e = .returned (.int .i64 i) ∧ decide (0 ≤ i) = l.any (· != 0)) ∧ w = w' := by
  unfold maxLen at hn
  have hl := Lib.hid h.1
  have HR := Lib.hid h; clear h
  go_enter Try.func41, Try.ntmps41
  go_wp2
  go_loop [8] (fun i => ∃ k : Nat, k ≤ n ∧ i = .int .i64 k ∧ (l.take k).any (· != 0) = false) (fun i => n - (intOf i).toNat)
  case atStart => exact ⟨0, Nat.zero_le _, rfl, rfl⟩
  case round =>
    obtain ⟨k, hk, rfl, ha⟩ := hrel
    have HA := Lib.hid ha; clear ha
    by_cases hlt : k < n
    · obtain ⟨b, o, rfl, hb, hc⟩ := HR.out.2 (by omega)
      have c1 := hc k (by have := hl.out; omega)
      obtain ⟨x, hx⟩ : ∃ x, x = l[k]'(by have := hl.out; omega) := ⟨_, rfl⟩
      rw [← hx] at c1
      have ht : l.take (k + 1) = l.take k ++ [x] := by rw [hx]; exact take_snoc8 l k (by have := hl.out; omega)
      have HT := Lib.hid ht
      have hm : x ∈ l := by rw [hx]; exact List.getElem_mem _
      have HM := Lib.hid hm
      clear hc hx ht hm
      cases hx0 : (x != 0)
      · have HX := Lib.hid hx0; clear hx0
        go_wp2_with fail
        refine (decode1 x _).mono ?_
        rintro e w' ⟨rfl, rfl⟩
        rw [HX.out]
        go_wp2_with fail
        go_round
        case rel => exact ⟨k + 1, by omega, by go_num, by rw [HT.out, List.any_append, HA.out]; simp [HX.out]⟩
        case measure => simp [intOf]; omega
      · have HX := Lib.hid hx0; clear hx0
        go_wp2_with fail
        refine (decode1 x _).mono ?_
        rintro e w' ⟨rfl, rfl⟩
        rw [HX.out]
        go_wp2_with fail
        go_ret
        refine ⟨⟨(k : Int), rfl, ?_⟩, rfl⟩
        rw [List.any_eq_true.2 ⟨x, HM.out, HX.out⟩]
        simp
    · obtain rfl : k = n := by omega
      go_wp2_with fail
      go_ret
      refine ⟨⟨-1, rfl, ?_⟩, rfl⟩
      have := HA.out
      rw [List.take_of_length_le (by have := hl.out; omega)] at this
      rw [this]
      rfl

theorem cf_any (A : Option Addr) (n c : Nat) (l : List UInt8) (w : World) (h : Reads8 w A n l) (hn : n ≤ maxLen) :
    Calls Try.prog 25 #[.slice A n c, .func (.func 26) #[] #[]] w fun e w' => e = .returned (.bool (l.any (· != 0))) ∧ w = w' := by
  go_enter Try.func25, Try.ntmps25
  go_wp2_with fail
  refine (ixf_any A n c l _ h hn).mono ?_
  rintro e w' ⟨⟨i, rfl, hi⟩, rfl⟩
  have HI := Lib.hid hi; clear hi
  go_wp2_with fail
  go_ret
  rw [← HI.out]
  exact ⟨rfl, rfl⟩

end Go.Proofs.Ytcljobkdihbflaa
