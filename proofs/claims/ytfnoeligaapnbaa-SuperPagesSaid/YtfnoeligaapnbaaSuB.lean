/-
  A range over a function, where a round is told that its element is good in the world at hand.
-/
import Derived.Test.YtfnoeligaapnbaaSuA
import Derived.RangeFuncNested
import Derived.RangeFuncBound
import Derived.RangeFuncCalls
import Derived.RangeFuncLeaves
import Derived.RangeFuncBox
import Derived.Shelf.Abstract
import Derived.OwnWalkIn
import Derived.TacticsInMore
import Derived.LoopNIn
import Derived.LoopIn
import Derived.Maps.AppendAt
namespace Go.Proofs.Ytfnoeligaapnbaa
open Go.RowKit Go.Shelf
set_option linter.unusedVariables false

/-- What lay from B on is as it lay. -/
def High (B : Nat) (W W' : World) : Prop := W.heap.size ≤ W'.heap.size ∧ ∀ j, B ≤ j → j < W.heap.size → W'.heap[j]? = W.heap[j]?
theorem High.refl (B : Nat) (W : World) : High B W W := ⟨Nat.le_refl _, fun _ _ _ => rfl⟩
theorem High.trans {B : Nat} {A C D : World} (h : High B A C) (k : High B C D) : High B A D := ⟨Nat.le_trans h.1 k.1, fun j h1 h2 => (k.2 j h1 (Nat.lt_of_lt_of_le h2 h.1)).trans (h.2 j h1 h2)⟩
theorem High.mono {B B' : Nat} {A C : World} (h : High B A C) (hb : B ≤ B') : High B' A C := ⟨h.1, fun j h1 h2 => h.2 j (Nat.le_trans hb h1) h2⟩
/-- All but one block is as it lay. -/
def But (l : Nat) (W W' : World) : Prop := W'.heap.size = W.heap.size ∧ W'.os = W.os ∧ W'.tape = W.tape ∧ W'.output = W.output ∧ ∀ j, j ≠ l → W'.heap[j]? = W.heap[j]?
theorem But.put (W : World) (l : Nat) (o : Obj) : But l W (W.putObj l o) := ⟨by simp [World.putObj], rfl, rfl, rfl, fun j hj => World.putObj_heap_other hj⟩
theorem But.below {l B : Nat} {W W' : World} (h : But l W W') (hl : B ≤ l) : Below B W W' := ⟨h.2.1, h.2.2.1, h.2.2.2.1, Nat.le_of_eq h.1.symm, fun k hk => h.2.2.2.2 k (by omega)⟩

theorem But.high {l B : Nat} {W W' : World} (h : But l W W') (hl : l < B) : High B W W' := ⟨Nat.le_of_eq h.1.symm, fun j h1 h2 => h.2.2.2.2 j (by omega)⟩

/-- A sequence's contract: at each yield the element is good. -/
def SeqOk {X : Type} (F : Fence) (n m : Nat) (P : Program) (g : Nat) (lb : Array Value) (encs : X → Array Value) (N : Nat) (Ok : Nat → Nat → X → World → Prop) (I : Nat → World → Prop) (w : World) : Prop :=
  ∀ (l : Nat) (J : Nat → World → Prop) (W : World), Below w.heap.size w W → (∀ k A C, J k A → Below W.heap.size A C → J k C) → (∀ k A, J k A → I k A) →
    (∀ k x W1, k < N → J k W1 → Ok W.heap.size k x W1 → W.heap.size ≤ W1.heap.size → YieldAt F m P l (encs x) W1 fun e W' => e = .returned (.bool true) ∧ J (k + 1) W' ∧ High W.heap.size W1 W') →
    J 0 W → CallsIn F n P g (#[.func (.yield l) #[] #[]] ++ lb) W fun e W' => (∃ v, e = .returned v) ∧ J N W'

theorem wpIn_range_ok {X : Type} {F : Fence} {n m : Nat} {P : Program} {g : Operand} {ps : Array Tmp} {assign body : Code} {Q : Exit → Act → World → Prop} {a : Act} {w : World}
    (hro : F.round = none) (h1 : 1 ≤ n) {gf : Nat} {lb : Array Value} (hg : a.eval g = .func (.func gf) #[] lb) (hFg : F.fn gf) (eg : ∀ args w, (callFunc gf args).run P w = .ok (.enter gf args) w)
    {encs : X → Array Value} (hps : ∀ x, (encs x).size = ps.size) {N : Nat} {Ok : Nat → Nat → X → World → Prop} {I : Nat → World → Prop} (hI : ∀ k A C, I k A → Below w.heap.size A C → I k C)
    (hseq : SeqOk F (n - 1) m P gf lb encs N Ok I w) (h0 : I 0 w)
    (hround : ∀ (l B k : Nat) (x : X) (W : World), w.heap.size ≤ l → l < B → B ≤ W.heap.size → k < N → I k W → Ok B k x W →
      assign.wpIn (F.inRound l) m P (Exit.then (fun a' Wa => Below w.heap.size W Wa ∧ High w.heap.size W Wa ∧ ∀ Wb, But l Wa Wb → body.wpIn (F.inRound l) m P (fun ex _ W3 => ex = .normal ∧ I (k + 1) W3 ∧ High w.heap.size Wb W3) a' Wb) (fun _ _ _ => False))
        { tmps := (ps.zip (encs x)).foldl (fun t (p, v) => t.setIfInBounds p v) a.tmps, defers := [] } W)
    (hdone : ∀ (D : Nat) (W : World), w.heap.size ≤ D → I N W → W.heap[D]? = some (.deferred (some [])) → Q .normal { a with defers := { target := .collected D, args := #[] } :: a.defers } W) :
    (Code.rangeFunc g ps assign body).wpIn F n P Q a w := by
  refine wpIn_rangeFunc ?_
  intro fn hfn
  rw [hro]
  obtain ⟨rec, hrec⟩ : ∃ rec : LoopState → Option Code → Loop, rec = fun st pe => { state := st, pending := pe, fn, tmps := a.tmps, params := ps, assign, body, defers := w.heap.size } := ⟨_, rfl⟩
  obtain ⟨W1, hW1⟩ : ∃ W1, (w.alloc (.deferred (some []))).alloc (.loop (rec .ready none)) = W1 := ⟨_, rfl⟩
  have hs1 : W1.heap.size = w.heap.size + 2 := by rw [← hW1]; simp
  have hL1 : W1.heap[w.heap.size + 1]? = some (.loop (rec .ready none)) := by
    have h := World.alloc_heap_new (w.alloc (.deferred (some []))) (.loop (rec .ready none))
    rw [World.size_alloc] at h
    rw [← hW1]; exact h
  have hb0 : Below w.heap.size w W1 := by rw [← hW1]; exact ((Below.refl _ w).alloc (Nat.le_refl _) _).alloc (by simp) _
  have hK1 : W1.heap[w.heap.size]? = some (.deferred (some [])) := by
    rw [← hW1]; exact (Below.heap_alloc _ _ _ (by simp)).trans (World.alloc_heap_new w _)
  refine ⟨w.heap.size + 1, [{ target := .collected w.heap.size, args := #[] }], W1, { target := .fn (.func gf) lb, args := #[.func (.yield (w.heap.size + 1)) #[] #[]] }, W1, gf,
    #[.func (.yield (w.heap.size + 1)) #[] #[]] ++ lb, W1, ?_, ?_, ?_, ?_, fun _ => h1, ?_⟩
  · rw [← hW1, hrec]; exact run_enterLoop_outer _ _ _ _ _
  · simp only [resolve, hg]
    simp [go_sem]
  · intro f' hf'; simp [Target.leads] at hf'; subst hf'; exact hFg
  · simp [invoke, go_sem, eg]
  · refine (hseq (w.heap.size + 1) (fun k W => I k W ∧ W.heap[w.heap.size + 1]? = some (.loop (rec .ready none)) ∧ W.heap[w.heap.size]? = some (.deferred (some []))) W1 hb0 ?_ (fun k A h => h.1) ?_ ⟨hI _ _ _ h0 hb0, hL1, hK1⟩).mono ?_
    · rintro k A C ⟨hi, hl, hk⟩ hb
      exact ⟨hI _ _ _ hi (hb.mono (by omega)), (hb.block _ (by omega)).trans hl, (hb.block _ (by omega)).trans hk⟩
    · rintro k x W hkN ⟨hi, hl, hk⟩ hok hsz
      have hy := run_yield (P := P) (args := encs x) hl (by rw [hrec]; exact hps x)
      rw [hrec] at hy
      refine ⟨fn, _, assign, body, hy, roundIn_of_wpIn hfn (wpIn_mono (hround (w.heap.size + 1) W1.heap.size k x W (by omega) (by omega) hsz hkN hi hok) ?_)⟩
      clear hy
      intro e a' Wa hp
      cases e with
      | normal =>
        obtain ⟨hba, hha, hbody⟩ := hp
        have hla : Wa.heap[w.heap.size + 1]? = some (.loop (rec .ready none)) := (hha.2 _ (by omega) (by omega)).trans hl
        have hka : Wa.heap[w.heap.size]? = some (.deferred (some [])) := (hha.2 _ (Nat.le_refl _) (by omega)).trans hk
        have hlt : w.heap.size + 1 < Wa.heap.size := (Array.getElem?_eq_some_iff.1 hla).1
        refine ⟨_, run_beginRound hla (by rw [hrec]), ?_⟩
        have hl2 : (Wa.putObj (w.heap.size + 1) (.loop { rec .ready none with state := .busy })).heap[w.heap.size + 1]? = some (.loop { rec .ready none with state := .busy }) := World.putObj_heap_same hlt
        have hbut := But.put Wa (w.heap.size + 1) (.loop { rec .ready none with state := .busy })
        refine wpIn_mono (hbody _ hbut) ?_
        rintro e a3 W3 ⟨rfl, hi3, hh3⟩
        have hl3 := (hh3.2 _ (by omega) (by rw [hbut.1]; exact hlt)).trans hl2
        have hk3 := ((hh3.2 _ (Nat.le_refl _) (by rw [hbut.1]; omega)).trans (hbut.2.2.2.2 _ (by omega))).trans hka
        have hr : (Instr.endRound (w.heap.size + 1) none).run P W3 = .ok (.bool true) (W3.putObj (w.heap.size + 1) (.loop (rec .ready none))) := by
          have := run_endRound (P := P) none hl3
          rw [hrec] at this ⊢
          exact this
        have hl4 : w.heap.size + 1 < W3.heap.size := (Array.getElem?_eq_some_iff.1 hl3).1
        have hbut2 := But.put W3 (w.heap.size + 1) (.loop (rec .ready none))
        refine ⟨_, _, hr, rfl, ⟨hI _ _ _ hi3 (hbut2.below (by omega)), World.putObj_heap_same hl4, (hbut2.2.2.2.2 _ (by omega)).trans hk3⟩, ?_⟩
        exact (((hha.mono (by omega)).trans (hbut.high (by omega))).trans (hh3.mono (by omega))).trans (hbut2.high (by omega))
      | _ => exact hp.elim
    · rintro e W2 ⟨⟨v, rfl⟩, hi, hl, hk⟩
      refine ⟨none, _, by have := run_endLoop (P := P) hl (by rw [hrec]; simp); rw [hrec] at this; exact this, hdone _ _ (Nat.le_refl _) (hI _ _ _ hi ((But.put _ _ _).below (by omega))) ((World.putObj_heap_other (by omega)).trans hk)⟩

end Go.Proofs.Ytfnoeligaapnbaa
