/-
  Contracts in one form.
-/
import Derived.Test.YtfnoeligaapnbaaOctT
namespace Go.Proofs.Ytfnoeligaapnbaa
open Go.RowKit
set_option linter.unusedVariables false

/-- Are the places there? -/
def fitsB (n : Nat) (at_ size : Int) : Bool := decide (1 ≤ size ∧ size ≤ 8 ∧ 0 ≤ at_ ∧ at_ ≤ n - size)

def getN (l : List UInt8) (at_ size : Int) : Nat := if fitsB l.length at_ size = true then num8 ((l.drop at_.toNat).take size.toNat) else 0

theorem fitsB_iff {n : Nat} {at_ size : Int} : fitsB n at_ size = true ↔ (1 ≤ size ∧ size ≤ 8 ∧ 0 ≤ at_ ∧ at_ ≤ n - size) := by unfold fitsB; simp

theorem fitsB_no {n : Nat} {at_ size : Int} (h : ¬ (1 ≤ size ∧ size ≤ 8 ∧ 0 ≤ at_ ∧ at_ ≤ n - size)) : fitsB n at_ size = false := by unfold fitsB; exact decide_eq_false h

theorem get_u (A : Option Addr) (n c : Nat) (l : List UInt8) (at_ size : Int) (w : World) (h : Reads8 w A n l) (hn : n ≤ maxLen) (hnc : n ≤ c) :
    Calls Try.prog 31 #[.slice A n c, .int .i64 at_, .int .i64 size] w fun e w' => e = .returned (.tuple #[.int .u64 (getN l at_ size : Int), .bool (fitsB n at_ size)]) ∧ w = w' := by
  by_cases hf : 1 ≤ size ∧ size ≤ 8 ∧ 0 ≤ at_ ∧ at_ ≤ n - size
  · obtain ⟨s, rfl⟩ : ∃ s : Nat, size = (s : Int) := ⟨size.toNat, by omega⟩
    obtain ⟨k, rfl⟩ : ∃ k : Nat, at_ = (k : Int) := ⟨at_.toNat, by omega⟩
    obtain ⟨b, o, rfl, _⟩ := h.2 (by omega)
    have e : getN l k s = num8 ((l.drop k).take s) := by
      unfold getN
      rw [if_pos (by rw [h.1]; exact fitsB_iff.2 hf)]
      simp
    rw [e, fitsB_iff.2 hf]
    exact get_yes b o n c l k s w h hn hnc (by omega) (by omega) (by omega)
  · have e : getN l at_ size = 0 := by
      unfold getN
      rw [if_neg (by rw [h.1, fitsB_iff]; exact hf)]
    rw [e, fitsB_no hf]
    exact get_no A n c at_ size w hn hf

/-- Some slice that reads as l. -/
def RetR (w w' : World) (mk : Value → Value) (l : List UInt8) (e : Ending) : Prop := ∃ A n c, e = .returned (mk (.slice A n c)) ∧ Reads8 w' A n l ∧ n ≤ c ∧ Below w.heap.size w w'

def sealL (kind : UInt8) (body : List UInt8) : List UInt8 := if body.length ≤ 123 then pageOf kind body else []

def sealE (body : List UInt8) : Int := if body.length ≤ 123 then 0 else 3

def openK (p : List UInt8) : UInt8 := if isPage p = true then p.headD 0 else 0

def openL (p : List UInt8) : List UInt8 := if isPage p = true then (p.drop 1).take 123 else []

def openE (p : List UInt8) : Int := if isPage p = true then 0 else 10

theorem Fresh8.ret {w w' : World} {v : Value} {l : List UInt8} (h : Fresh8 w w' v l) (mk : Value → Value) : RetR w w' mk l (.returned (mk v)) := by
  obtain ⟨g, c, rfl, hg, hn, hm, hM, hb⟩ := h
  exact ⟨_, _, _, rfl, hM.reads, hn, hb⟩

theorem seal_u (A : Option Addr) (n c : Nat) (kind : UInt8) (body : List UInt8) (w : World) (h : Reads8 w A n body) (hn : n ≤ maxLen) :
    Calls Try.prog 22 #[.int .u8 (kind.toNat : Int), .slice A n c] w fun e w' => RetR w w' (fun v => .tuple #[v, .int .i64 (sealE body)]) (sealL kind body) e := by
  have hl := h.1
  unfold sealL sealE
  rcases Nat.lt_or_ge 123 n with h1 | h1
  · rw [if_neg (by omega), if_neg (by omega)]
    exact (seal_long A n c _ w hn h1).mono fun e w' ⟨he, hw⟩ => by subst he; subst hw; exact ⟨_, _, _, rfl, Reads8.nil _ _, Nat.le_refl _, Below.refl _ _⟩
  · rw [if_pos (by omega), if_pos (by omega)]
    exact (seal_any A n c kind body w h h1).mono fun e w' ⟨v, he, hF⟩ => by subst he; exact hF.ret _

theorem rseal_u (A : Option Addr) (n c : Nat) (kind : UInt8) (body : List UInt8) (w : World) (h : Reads8 w A n body) (hn : n ≤ maxLen) :
    Calls Try.prog 28 #[.int .u8 (kind.toNat : Int), .slice A n c] w fun e w' => RetR w w' (fun v => .tuple #[v, .int .i64 (sealE body)]) (sealL kind body) e := by
  have hl := h.1
  unfold sealL sealE
  rcases Nat.lt_or_ge 123 n with h1 | h1
  · rw [if_neg (by omega), if_neg (by omega)]
    exact (rseal_long A n c _ w hn h1).mono fun e w' ⟨he, hw⟩ => by subst he; subst hw; exact ⟨_, _, _, rfl, Reads8.nil _ _, Nat.le_refl _, Below.refl _ _⟩
  · rw [if_pos (by omega), if_pos (by omega)]
    exact (rseal_any A n c kind body w h h1).mono fun e w' ⟨v, he, hF⟩ => by subst he; exact hF.ret _

theorem open_u (A : Option Addr) (n c : Nat) (p : List UInt8) (w : World) (h : Reads8 w A n p) (hn : n ≤ maxLen) (hnc : n ≤ c) :
    Calls Try.prog 29 #[.slice A n c] w fun e w' => RetR w w' (fun v => .tuple #[.int .u8 ((openK p).toNat : Int), v, .int .i64 (openE p)]) (openL p) e := by
  unfold openK openL openE
  cases hp : isPage p
  · simp only [Bool.false_eq_true, if_false]
    exact (open_no A n c p w h hn hnc hp).mono fun e w' ⟨he, q, hw⟩ => by subst he; subst hw; exact ⟨_, _, _, rfl, Reads8.nil _ _, Nat.le_refl _, bdn _ _⟩
  · simp only [if_true]
    exact (open_yes A n c p w h hnc hp).mono fun e w' ⟨v, he, hF⟩ => by subst he; exact hF.ret (fun v => .tuple #[.int .u8 ((p.headD 0).toNat : Int), v, .int .i64 0])

theorem ropen_u (A : Option Addr) (n c : Nat) (p : List UInt8) (w : World) (h : Reads8 w A n p) (hn : n ≤ maxLen) (hnc : n ≤ c) :
    Calls Try.prog 32 #[.slice A n c] w fun e w' => RetR w w' (fun v => .tuple #[.int .u8 ((openK p).toNat : Int), v, .int .i64 (openE p)]) (openL p) e := by
  unfold openK openL openE
  cases hp : isPage p
  · simp only [Bool.false_eq_true, if_false]
    exact (ropen_no A n c p w h hn hnc hp).mono fun e w' ⟨he, q, hw⟩ => by subst he; subst hw; exact ⟨_, _, _, rfl, Reads8.nil _ _, Nat.le_refl _, bdn _ _⟩
  · simp only [if_true]
    exact (ropen_yes A n c p w h hnc hp).mono fun e w' ⟨v, he, hF⟩ => by subst he; exact hF.ret (fun v => .tuple #[.int .u8 ((p.headD 0).toNat : Int), v, .int .i64 0])

def putB (n : Nat) (at_ size : Int) (N : Nat) : Bool := fitsB n at_ size && decide (N < 256 ^ size.toNat)

def putL (l : List UInt8) (at_ size : Int) (N : Nat) : List UInt8 := if putB l.length at_ size N = true then l.take at_.toNat ++ be N size.toNat ++ l.drop (at_.toNat + size.toNat) else l

theorem put_u (g n c : Nat) (l : List UInt8) (at_ size : Int) (N : Nat) (w : World) (h : Mem8 w g 0 n l) (hn : n ≤ maxLen) (hnc : n ≤ c) (hN : N < 18446744073709551616) :
    Calls Try.prog 26 #[.slice (some ⟨g, 0, none⟩) n c, .int .i64 at_, .int .i64 size, .int .u64 (N : Int)] w fun e w' => e = .returned (.bool (putB n at_ size N)) ∧ Mem8 w' g 0 n (putL l at_ size N) ∧ Wrote w w' g 0 n := by
  have hl := h.len
  unfold putL
  rw [hl]
  by_cases hf : 1 ≤ size ∧ size ≤ 8 ∧ 0 ≤ at_ ∧ at_ ≤ n - size
  · obtain ⟨s, rfl⟩ : ∃ s : Nat, size = (s : Int) := ⟨size.toNat, by omega⟩
    obtain ⟨k, rfl⟩ : ∃ k : Nat, at_ = (k : Int) := ⟨at_.toNat, by omega⟩
    by_cases hs : N < 256 ^ s
    · have e : putB n k s N = true := by unfold putB; rw [fitsB_iff.2 hf]; simp [hs]
      rw [e, if_pos rfl]
      refine (put_yes' g 0 n c l k s N w h hn hnc (by omega) (by omega) (by omega) hs).mono fun e w' ⟨he, hw, hm⟩ => ⟨he, by simpa using hm, hw.mono (by omega) (by omega)⟩
    · have e : putB n k s N = false := by unfold putB; rw [fitsB_iff.2 hf]; simp [hs]
      rw [e, if_neg (by simp)]
      exact (put_great _ n c k s N w hn (by omega) (by omega) (by omega) hs hN).mono fun e w' ⟨he, hw⟩ => by subst hw; exact ⟨he, h, Wrote.refl _ _ _ _⟩
  · have e : putB n at_ size N = false := by unfold putB; rw [fitsB_no hf]; rfl
    rw [e, if_neg (by simp)]
    exact (put_small _ n c at_ size N w hn hf).mono fun e w' ⟨he, hw⟩ => by subst hw; exact ⟨he, h, Wrote.refl _ _ _ _⟩

end Go.Proofs.Ytfnoeligaapnbaa
