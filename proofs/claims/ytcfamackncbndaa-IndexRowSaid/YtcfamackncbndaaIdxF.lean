/-
  index.Decode: what is no page of numbers.
-/
import Derived.Test.YtcfamackncbndaaIdxE
namespace Go.Proofs.Ytcfamackncbndaa
open Go.RowKit Go.Shelf
set_option linter.unusedVariables false
attribute [local go_sem] Oper.semAt_some

/-- The results lie in two boxes. -/
theorem dec_leaves {n : Nat} {R : Ending → World → Prop} {tmps : Array Value} {W : World} {B4 B5 : Nat} {A : Option Addr} {m c : Nat} {k : Int}
    (t4 : tmps[4]?.getD undef = .pointer (some ⟨B4, 0, none⟩)) (t5 : tmps[5]?.getD undef = .pointer (some ⟨B5, 0, none⟩))
    (h4 : W.cell? ⟨B4, 0, none⟩ = some (.slice A m c)) (h5 : W.cell? ⟨B5, 0, none⟩ = some (.int .i64 k)) (hR : R (.returned (.tuple #[.slice A m c, .int .i64 k])) W) :
    LeavesInM Fence.wide n Try.prog Try.f13 tmps R [] .returning W := by
  refine ⟨.tuple #[.slice A m c, .int .i64 k], ?_, hR⟩
  simp [results, Try.f13, go_sem, t4, t5, h4, h5]

theorem set2 {X : World} {B4 B5 : Nat} {t t' : TypeId} {v4 v5 : Value} (u4 u5 : Value) (h4 : Boxed X B4 t v4) (h5 : Boxed X B5 t' v5) (hne : B4 ≠ B5) :
    Boxed ((X.setCell ⟨B4, 0, none⟩ u4).setCell ⟨B5, 0, none⟩ u5) B4 t u4 ∧ Boxed ((X.setCell ⟨B4, 0, none⟩ u4).setCell ⟨B5, 0, none⟩ u5) B5 t' u5 :=
  ⟨(h4.set u4).kept (grownBy_setCell' _ _ _) (by simp [hne]), (h5.kept (grownBy_setCell' _ _ _) (by simp; omega)).set u5⟩

theorem boxed_keep {X W : World} {B N : Nat} {t : TypeId} {v : Value} (h : Boxed X B t v) (hb : Below N X W) (hB : B < N) : Boxed W B t v := (hb.block B hB).trans h

/-- The two boxes of the results. -/
structure Boxes (w X : World) : Prop where
  b4 : Boxed X w.heap.size 22 (.slice none 0 0)
  b5 : Boxed X (w.heap.size + 1) 26 (.int .i64 0)
  bw : Below w.heap.size w X
theorem Boxes.start (w : World) : Boxes w ((w.alloc (.cells #[.slice none 0 0] 22)).alloc (.cells #[.int .i64 0] 26)) :=
  ⟨(Boxed.new w _ _).alloc _, by have := Boxed.new (w.alloc (.cells #[.slice none 0 0] 22)) 26 (.int .i64 0); rwa [World.size_alloc] at this, ((Below.refl _ w).alloc (Nat.le_refl _) _).alloc (by simp) _⟩
theorem Boxes.keep {w X W : World} (h : Boxes w X) (hb : Below X.heap.size X W) : Boxes w W :=
  ⟨boxed_keep h.b4 hb h.b4.lt, boxed_keep h.b5 hb h.b5.lt, h.bw.trans (hb.mono h.bw.size)⟩

set_option maxRecDepth 100000 in
set_option maxHeartbeats 2000000 in
theorem decode_none (A : Option Addr) (n c : Nat) (kind : UInt8) (p : List UInt8) (w : World) (h : Reads8 w A n p) (hn : n ≤ maxLen) (hnc : n ≤ c) (hp : isPage p = false) :
    Calls Try.prog 13 #[.int .u8 (kind.toNat : Int), .slice A n c] w fun e w' => e = .returned (.tuple #[.slice none 0 0, .int .i64 50]) ∧ Below w.heap.size w w' := by
  have HR := Lib.hid h; clear h
  have HP := Lib.hid hp; clear hp
  refine (callsIn_wide (n := 5)).1 ?_
  refine callsIn_of_wp_marks Try.func13 rfl trivial ?_ rfl
  simp only [Try.ntmps13, List.size_toArray, List.length_cons, List.length_nil, Nat.reduceAdd, Nat.reduceSub, Array.replicate_succ, Array.replicate_zero, List.push_toArray, List.append_toArray, List.nil_append, List.cons_append]
  have B2 := Lib.hid (Boxes.start w)
  gi_wp2
  refine ⟨trivial, ?_⟩
  gi_at_call 26
  refine (callsIn_wide.2 (open_no A n c p _ (HR.out.keep B2.out.bw) hn hnc HP.out)).mono ?_
  rintro e w1 ⟨rfl, q, rfl⟩
  have B3 := Lib.hid (B2.out.keep (bdn _ q))
  gi_wp2_with (refine ⟨trivial, ?_⟩)
  obtain ⟨s4, s5⟩ := set2 (.slice none 0 0) (.int .i64 50) B3.out.b4 B3.out.b5 (by omega)
  refine dec_leaves rfl rfl (s4.alloc _).cell (s5.alloc _).cell ⟨rfl, ?_⟩
  exact ((B3.out.bw.setCell (p := ⟨w.heap.size, 0, none⟩) (Nat.le_refl _) _).setCell (p := ⟨w.heap.size + 1, 0, none⟩) (by simp) _).alloc (by simp; omega) _

end Go.Proofs.Ytcfamackncbndaa
