/-
  The pen: (*shelf.pen).put; shelf.Encode.
-/
import Derived.Test.YtcljobkdihbflaaShB
import Derived.Test.YtcljobkdihbflaaOctX
namespace Go.Proofs.Ytcljobkdihbflaa
open Go.RowKit
set_option linter.unusedVariables false
attribute [local go_sem ↓] Go.wp_at_zero Go.wp_at_succ

/-- w' is w but for two blocks. -/
structure Only (w w' : World) (P g : Nat) : Prop where
  os : w'.os = w.os
  tape : w'.tape = w.tape
  output : w'.output = w.output
  size : w'.heap.size = w.heap.size
  other : ∀ k, k ≠ P → k ≠ g → w'.heap[k]? = w.heap[k]?
theorem Only.below {w w' : World} {P g B : Nat} (h : Only w w' P g) (hP : B ≤ P) (hg : B ≤ g) : Below B w w' :=
  ⟨h.os, h.tape, h.output, Nat.le_of_eq h.size.symm, fun k hk => h.other k (by omega) (by omega)⟩
theorem Only.cell {w w' : World} {P g b o : Nat} (h : Only w w' P g) (h1 : b ≠ P) (h2 : b ≠ g) : w'.cell? ⟨b, o, none⟩ = w.cell? ⟨b, o, none⟩ :=
  World.cell?_of_block (w := w) (a := ⟨b, o, none⟩) (h.other b h1 h2)
theorem Only.trans {a b c : World} {P g : Nat} (h : Only a b P g) (k : Only b c P g) : Only a c P g :=
  ⟨k.os.trans h.os, k.tape.trans h.tape, k.output.trans h.output, k.size.trans h.size, fun i h1 h2 => (k.other i h1 h2).trans (h.other i h1 h2)⟩
theorem Wrote.only {w w' : World} {g lo hi P : Nat} (h : Wrote w w' g lo hi) : Only w w' P g := ⟨h.os, h.tape, h.output, h.size, fun k _ h2 => h.other k h2⟩
theorem Only.set (w : World) (P g i : Nat) (u : Value) : Only w (w.setCell ⟨P, i, none⟩ u) P g := ⟨rfl, rfl, rfl, by simp [World.setCell], fun k h1 _ => Below.heap_setCell _ _ _ _ h1⟩

/-- Two cells, the second one turned. -/
theorem MemC.set1 {w : World} {P : Nat} {a b : Value} (h : MemC w P 0 [a, b]) (v : Value) : MemC (w.setCell ⟨P, 1, none⟩ v) P 0 [a, v] := by
  have h0 := h.at_.cell 0 (by simp)
  have h1 := h.at_.cell 1 (by simp)
  have f0 := h.free 0 (by simp)
  have f1 := h.free 1 (by simp)
  simp only [Nat.zero_add, List.getElem_cons_zero, List.getElem_cons_succ] at h0 h1 f0 f1
  refine ⟨⟨by rw [World.setCell]; simpa using h.at_.lt, fun j hj => ?_⟩, fun j hj => ?_⟩
  · rw [Nat.zero_add]
    match j, hj with
    | 0, _ => exact (World.cell?_setCell_other w ⟨P, 1, none⟩ ⟨P, 0, none⟩ v (fun e => by injection e with _ e2; omega)).trans h0
    | 1, _ => exact World.cell?_setCell_same' _ _ _ (by rw [h1]; rfl)
  · rw [Nat.zero_add, World.frozen?_setCell]
    match j, hj with
    | 0, _ => exact f0
    | 1, _ => exact f1

theorem MemC.other {w w' : World} {P : Nat} {xs : List Value} (h : MemC w P 0 xs) (e : w'.heap[P]? = w.heap[P]?) (hs : w'.heap.size = w.heap.size) : MemC w' P 0 xs :=
  ⟨⟨by rw [hs]; exact h.at_.lt, fun j hj => (World.cell?_of_block (w := w) (a := ⟨P, 0 + j, none⟩) e).trans (h.at_.cell j hj)⟩, fun j hj => by
    have := h.free j hj
    simp only [World.frozen?, e] at this ⊢
    exact this⟩
theorem Mem8.other {w w' : World} {P o n : Nat} {l : List UInt8} (h : Mem8 w P o n l) (e : w'.heap[P]? = w.heap[P]?) (hs : w'.heap.size = w.heap.size) : Mem8 w' P o n l :=
  ⟨h.len, by rw [hs]; exact h.lt, fun j hj => (World.cell?_of_block (w := w) (a := ⟨P, o + j, none⟩) e).trans (h.cell j hj), fun j hj => by
    have := h.free j hj
    simp only [World.frozen?, e] at this ⊢
    exact this⟩

/-- Written so far, and noughts. -/
def pad (W : List UInt8) (t : Nat) : List UInt8 := W ++ List.replicate (t - W.length) 0
theorem pad_length (W : List UInt8) (t : Nat) (h : W.length ≤ t) : (pad W t).length = t := by simp [pad]; omega
theorem pad_all (W : List UInt8) : pad W W.length = W := by simp [pad]
theorem pad_put (W : List UInt8) (t N size : Nat) (h : W.length + size ≤ t) : (pad W t).take W.length ++ be N size ++ (pad W t).drop (W.length + size) = pad (W ++ be N size) t := by
  unfold pad
  rw [List.take_left, List.drop_length_add_append, List.drop_replicate, List.length_append, be_length, Nat.sub_sub]

/-- The pen's two cells, and its body: what is written, and noughts. -/
structure PenW (w : World) (P g t : Nat) (W : List UInt8) : Prop where
  pen : MemC w P 0 [.slice (some ⟨g, 0, none⟩) t t, .int .i64 (W.length : Int)]
  mem : Mem8 w g 0 t (pad W t)
  ne : P ≠ g
  le : W.length ≤ t
theorem PenW.keep {w w' : World} {P g t : Nat} {W : List UInt8} (h : PenW w P g t W) (hb : Below w.heap.size w w') : PenW w' P g t W := ⟨h.pen.keep hb, h.mem.keep hb, h.ne, h.le⟩

set_option maxHeartbeats 1000000 in
theorem penput (P g t : Nat) (W : List UInt8) (size N : Nat) (w : World) (h : PenW w P g t W) (ht : t ≤ 123) (h1 : 1 ≤ size) (h2 : size ≤ 8) (h3 : W.length + size ≤ t) (hN : N < 256 ^ size) :
    Calls Try.prog 21 #[.pointer (some ⟨P, 0, none⟩), .int .i64 (size : Int), .int .u64 (N : Int)] w fun e w' => (∃ v, e = .returned v) ∧ PenW w' P g t (W ++ be N size) ∧ Only w w' P g := by
  have c0 := h.pen.at_.cell 0 (by simp)
  have c1 := h.pen.at_.cell 1 (by simp)
  simp only [Nat.zero_add, List.getElem_cons_zero, List.getElem_cons_succ] at c0 c1
  have H := Lib.hid h; clear h
  have k1 : IntKind.i64.wrap ((W.length : Int) + (size : Int)) = (W.length : Int) + (size : Int) := IntWalk.i64_in _ (by omega)
  go_enter Try.func21, Try.ntmps21
  go_wp2_with fail
  go_region_held3 (fun w' => w'.cell? ⟨P, 0, none⟩ = some (.slice (some ⟨g, 0, none⟩) t t) ∧ w'.cell? ⟨P, 1, none⟩ = some (.int .i64 (W.length : Int)))
    (go_keep)
    ((go_at_call 36; refine (put_yes' g 0 t t _ W.length size N _ H.out.mem.drew (by simp only [maxLen]; omega) (Nat.le_refl _) h1 h2 h3 hN).mono ?_; rintro e w' ⟨rfl, hw2, hm2⟩; have d0 := hw2.other P H.out.ne; have d1 := World.cell?_of_block (a := ⟨P, 0, none⟩) d0; have d2 := World.cell?_of_block (a := ⟨P, 1, none⟩) d0))
  have hP : MemC w' P 0 [.slice (some ⟨g, 0, none⟩) t t, .int .i64 (W.length : Int)] := H.out.pen.drew.other d0 hw2.size
  have q1 := hP.at_.cell 1 (by simp)
  have q2 := hP.free 1 (by simp)
  simp only [Nat.zero_add, List.getElem_cons_zero, List.getElem_cons_succ] at q1 q2
  have hon : Only w w' P g := by
    have := hw2.only (P := P)
    exact ⟨this.os, this.tape, this.output, this.size, this.other⟩
  rw [pad_put W t N size h3] at hm2
  have HP := Lib.hid hP
  have HM := Lib.hid hm2
  have HO := Lib.hid hon
  clear hP hm2 hon hw2 d0 d1 d2 c0 c1
  go_wp2_with fail
  go_end0
  refine ⟨⟨_, rfl⟩, ⟨?_, HM.out.other (Below.heap_setCell _ _ _ _ (fun e => H.out.ne e.symm)) (by simp [World.setCell]), H.out.ne, by simp [be_length]; omega⟩, HO.out.trans (Only.set _ _ _ _ _)⟩
  have e : ((W ++ be N size).length : Int) = (W.length : Int) + (size : Int) := by simp [be_length]
  rw [e]
  exact HP.out.set1 _

end Go.Proofs.Ytcljobkdihbflaa
