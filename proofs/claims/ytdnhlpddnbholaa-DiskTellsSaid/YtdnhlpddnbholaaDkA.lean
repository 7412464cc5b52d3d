/-
  A disk in memory; may, power, Len, Down.
-/
import Derived.Test.YtdnhlpddnbholaaOwn
import Derived.Test.YtdnhlpddnbholaaDkPlain
import Derived.Test.YtdnhlpddnbholaaChecked
import Derived.Lib.Hide
import Derived.Lib.SlBuf
import Derived.Laws.IdiomCopy
import Derived.Deep.MidRow
import Derived.Deep.RegionHeld3
import Derived.Deep.DrawnRows
import Derived.Deep.QuietTactic
import Derived.BigQuiet
import Derived.RegionTactic
import Derived.OpenShut
import Derived.Deep.Cut
import Derived.OwnWalk
import Derived.Deep.RegionLaw
namespace Go.Proofs.Ytdnhlpddnbholaa
open Go.RowKit
set_option linter.unusedVariables false
set_option linter.unusedSimpArgs false

/-- Cells of bytes; of a write; of writes. -/
def b8 (l : List UInt8) : List Value := l.map fun x => .int .u8 (x.toNat : Int)
theorem b8_length (l : List UInt8) : (b8 l).length = l.length := by simp [b8]
theorem b8_get {l : List UInt8} {j : Nat} (h : j < l.length) : (b8 l)[j]? = some (.int .u8 (l[j].toNat : Int)) := by simp [b8, h]
theorem b8_one (l : List UInt8) : ∀ v ∈ b8 l, v.oneCell' = true := by
  intro v hv
  simp [b8] at hv
  obtain ⟨x, _, rfl⟩ := hv
  rfl
def wcell (x : Nat × List UInt8) : List Value := .int .i64 (x.1 : Int) :: b8 x.2
theorem wcell_length (x : Nat × List UInt8) (h : x.2.length = 128) : (wcell x).length = 129 := by simp [wcell, b8, h]
theorem wcell_one (x : Nat × List UInt8) : ∀ v ∈ wcell x, v.oneCell' = true := by
  intro v hv
  simp only [wcell, List.mem_cons] at hv
  rcases hv with rfl | hv
  · rfl
  · exact b8_one _ _ hv
def wcells (l : List (Nat × List UInt8)) : List Value := l.flatMap wcell
theorem wcells_append (l m : List (Nat × List UInt8)) : wcells (l ++ m) = wcells l ++ wcells m := by simp [wcells]
theorem wcells_one (x : Nat × List UInt8) : wcells [x] = wcell x := by simp [wcells]
theorem wcells_length : ∀ (l : List (Nat × List UInt8)), (∀ x ∈ l, x.2.length = 128) → (wcells l).length = l.length * 129
  | [], _ => rfl
  | x :: l, h => by
    have ih := wcells_length l fun y hy => h y (by simp [hy])
    unfold wcells at ih ⊢
    rw [List.flatMap_cons, List.length_append, ih, wcell_length x (h x (by simp)), List.length_cons]
    omega
theorem wcells_at : ∀ (l : List (Nat × List UInt8)), (∀ x ∈ l, x.2.length = 128) → ∀ k, k < l.length → ((wcells l).drop (129 * k)).take 129 = wcell (l.getD k nW)
  | [], _, k, hk => by simp at hk
  | x :: l, h, 0, _ => by
    have h0 := wcell_length x (h x (by simp))
    simp only [wcells, List.flatMap_cons, Nat.mul_zero, List.drop_zero, List.getD_cons_zero]
    rw [List.take_append_of_le_length (by omega), List.take_of_length_le (by omega)]
  | x :: l, h, k + 1, hk => by
    have h0 := wcell_length x (h x (by simp))
    have ih := wcells_at l (fun y hy => h y (by simp [hy])) k (by simpa using hk)
    simp only [wcells, List.flatMap_cons, List.getD_cons_succ] at ih ⊢
    rw [← ih, show 129 * (k + 1) = (wcell x).length + 129 * k by omega, ← List.drop_drop, List.drop_left]
def wval (x : Nat × List UInt8) : Value := .agg (wcell x).toArray

/-- Nothing that was there has turned, but for the blocks of F. -/
structure Turn (F : Nat → Prop) (w w' : World) : Prop where
  os : w'.os = w.os
  tape : w'.tape = w.tape
  output : w'.output = w.output
  size : w.heap.size ≤ w'.heap.size
  block : ∀ k, k < w.heap.size → ¬ F k → w'.heap[k]? = w.heap[k]?
theorem Turn.refl (F : Nat → Prop) (w : World) : Turn F w w := ⟨rfl, rfl, rfl, Nat.le_refl _, fun _ _ _ => rfl⟩
theorem Turn.trans {F : Nat → Prop} {a b c : World} (h : Turn F a b) (k : Turn F b c) : Turn F a c :=
  ⟨k.os.trans h.os, k.tape.trans h.tape, k.output.trans h.output, Nat.le_trans h.size k.size, fun i h1 h2 => (k.block i (Nat.lt_of_lt_of_le h1 h.size) h2).trans (h.block i h1 h2)⟩
theorem Turn.of_below {F : Nat → Prop} {w w' : World} (h : Below w.heap.size w w') : Turn F w w' := ⟨h.os, h.tape, h.output, h.size, fun k h1 _ => h.block k h1⟩
theorem Turn.below {F : Nat → Prop} {w w' : World} {B : Nat} (h : Turn F w w') (hF : ∀ k, F k → B ≤ k) (hB : B ≤ w.heap.size) : Below B w w' := ⟨h.os, h.tape, h.output, h.size, fun k hk => h.block k (by omega) fun hf => by have := hF k hf; omega⟩
theorem Turn.set {F : Nat → Prop} (w : World) {p i : Nat} (hp : F p) (v : Value) : Turn F w (w.setCell ⟨p, i, none⟩ v) :=
  ⟨rfl, rfl, rfl, by simp [World.setCell], fun k _ hk => Below.heap_setCell _ _ _ _ (fun e => by subst e; exact hk hp)⟩
theorem Turn.drewN {F : Nat → Prop} {a w : World} (h : Turn F a w) (k : Nat) : Turn F a (w.drewN k) := ⟨h.os, h.tape, h.output, h.size, h.block⟩

/-- A disk at p: its blocks lie in q, what waits is the slice v. -/
structure DiskIn (F : Nat → Prop) (w : World) (p q c : Nat) (v : Value) (D : Dk) : Prop where
  ok : D.Ok
  head : MemC w p 0 [.slice (some ⟨q, 0, none⟩) D.blks.length c, v, .int .i64 D.left, .bool D.down]
  cap : D.blks.length ≤ c
  capm : c ≤ maxLen
  blks : Mem8 w q 0 (128 * D.blks.length) (flat D.blks)
  waits : w.ownsRow 0 83 129 v D.waits.length (wcells D.waits)
  fp : F p
  fq : F q
  fv : ∀ g, v.ownBlock = some g → F g
  new : ∀ b, w.heap.size ≤ b → F b
  pq : p ≠ q
  vp : v.ownBlock ≠ some p
  vq : v.ownBlock ≠ some q
def DiskAt (F : Nat → Prop) (w : World) (p q : Nat) (D : Dk) : Prop := ∃ c v, DiskIn F w p q c v D

theorem DiskIn.keep {F : Nat → Prop} {w w' : World} {p q c : Nat} {v : Value} {D : Dk} (h : DiskIn F w p q c v D) (hb : Below w.heap.size w w') : DiskIn F w' p q c v D :=
  ⟨h.ok, h.head.keep hb, h.cap, h.capm, h.blks.keep hb, own_keep h.waits hb, h.fp, h.fq, h.fv, fun b hB => h.new b (Nat.le_trans hb.size hB), h.pq, h.vp, h.vq⟩
theorem DiskAt.keep {F : Nat → Prop} {w w' : World} {p q : Nat} {D : Dk} (h : DiskAt F w p q D) (hb : Below w.heap.size w w') : DiskAt F w' p q D := by
  obtain ⟨c, v, h⟩ := h
  exact ⟨c, v, h.keep hb⟩
theorem DiskIn.slice {F : Nat → Prop} {w : World} {p q c : Nat} {v : Value} {D : Dk} (h : DiskIn F w p q c v D) : ∃ A d, v = .slice A D.waits.length d ∧ Cells w A (wcells D.waits) ∧ D.waits.length ≤ d ∧ d ≤ maxLen ∧ (0 < D.waits.length → ∃ g, A = some ⟨g, 0, none⟩ ∧ MemC w g 0 (wcells D.waits)) := by
  have hl := wcells_length D.waits fun x hx => (h.ok.wait x hx).2
  have ho := h.waits
  rcases ho.2 with ⟨rfl, h0⟩ | ⟨g, cap, cur, rfl, hg, hh, hn, hm, _⟩
  · have e : D.waits = [] := List.eq_nil_of_length_eq_zero h0
    rw [e]
    exact ⟨none, 0, rfl, Cells.nil _ _, Nat.le_refl _, by simp [maxLen], fun h => absurd h (by simp)⟩
  · have hm' := (MemC.of_ownC ho).1
    exact ⟨_, cap, rfl, hm'.cells, hn, hm, fun _ => ⟨g, rfl, hm'⟩⟩
theorem DiskIn.lt {F : Nat → Prop} {w : World} {p q c : Nat} {v : Value} {D : Dk} (h : DiskIn F w p q c v D) : p < w.heap.size ∧ q < w.heap.size := ⟨h.head.at_.lt, h.blks.lt⟩
/-- The head's last two cells turn. -/
theorem DiskIn.headset {F : Nat → Prop} {w w' : World} {p q c : Nat} {v : Value} {D D' : Dk} (h : DiskIn F w p q c v D) (ho : ∀ k, k ≠ p → w'.heap[k]? = w.heap[k]?) (hs : w'.heap.size = w.heap.size) (hb : D'.blks = D.blks) (hw : D'.waits = D.waits) (hk : D'.Ok)
    (hm : MemC w' p 0 [.slice (some ⟨q, 0, none⟩) D.blks.length c, v, .int .i64 D'.left, .bool D'.down]) : DiskIn F w' p q c v D' := by
  refine ⟨hk, by rw [hb]; exact hm, by rw [hb]; exact h.cap, h.capm, ?_, ?_, h.fp, h.fq, h.fv, by rw [hs]; exact h.new, h.pq, h.vp, h.vq⟩
  · rw [hb]
    have e := ho q (fun e => h.pq e.symm)
    exact ⟨h.blks.len, by rw [hs]; exact h.blks.lt, fun j hj => (World.cell?_of_block (w := w) (a := ⟨q, 0 + j, none⟩) e).trans (h.blks.cell j hj), fun j hj => (World.frozen?_of_block (w := w) (a := ⟨q, 0 + j, none⟩) e).trans (h.blks.free j hj)⟩
  · rw [hw]
    refine ⟨h.waits.1, h.waits.2.imp id fun ⟨g, cap, cur, e1, hg, hh, r⟩ => ⟨g, cap, cur, e1, hg, (ho g ?_).trans hh, r⟩⟩
    intro e
    subst e
    exact h.vp (by rw [e1]; rfl)

attribute [local go_sem ↓] Go.wp_at_zero Go.wp_at_succ
section
variable {F : Nat → Prop} {p q : Nat} {D : Dk}
set_option maxRecDepth 20000 in
theorem may_any (w : World) (h : DiskAt F w p q D) : Calls Try.prog 30 #[.pointer (some ⟨p, 0, none⟩)] w fun e w' => e = .returned (.int .i64 (mayE D)) ∧ w = w' := by
  obtain ⟨c, v, h⟩ := h
  obtain ⟨h0, _⟩ := h.head.get 0 _ rfl
  obtain ⟨h3, _⟩ := h.head.get 3 _ rfl
  unfold mayE
  generalize D.down = dn at *
  clear h
  have qn := fun (w : World) (a : Option Addr) (n c n' c' : Nat) => Lib.run_eql_slice_nil (P := Try.prog) w 70 _ a n c n' c' Try.underlying70
  cases dn
  all_goals
    go_enter Try.func30, Try.ntmps30
    go_wp2
    go_ret
    exact ⟨rfl, rfl⟩

theorem power_any (w : World) (h : DiskAt F w p q D) : Calls Try.prog 33 #[.pointer (some ⟨p, 0, none⟩)] w fun e w' => e = .returned (.int .i64 (powerE D)) ∧ w'.heap.size = w.heap.size ∧ (∀ k, k ≠ p → w'.heap[k]? = w.heap[k]?) ∧ Turn F w w' ∧
    ∀ q c v, DiskIn F w p q c v D → DiskIn F w' p q c v (powered D) := by
  obtain ⟨c, v, h⟩ := h
  obtain ⟨h2, f2⟩ := h.head.get 2 _ rfl
  obtain ⟨h3, f3⟩ := h.head.get 3 _ rfl
  have hlo := h.ok.lo
  have hhi := h.ok.hi
  have HF : Hid (F p) := Lib.hid h.fp
  have ok := powered_ok h.ok
  have HK := Lib.hid ok
  clear h ok
  unfold powerE
  by_cases hn : D.left < 0
  · have hz : ¬ D.left = 0 := by omega
    have ep : powered D = D := by unfold powered; rw [if_pos hn]
    rw [ep, if_neg hz]
    clear HK ep
    go_enter Try.func33, Try.ntmps33
    go_wp2
    go_ret
    exact ⟨rfl, rfl, fun _ _ => rfl, Turn.refl _ _, fun q c v h => h⟩
  by_cases hz : D.left = 0
  · have ep : powered D = { D with left := -1, down := true } := by unfold powered; rw [if_neg hn, if_pos hz]
    rw [if_pos hz]
    have EP := Lib.hid ep
    rw [hz] at h2
    clear ep hn hz
    go_enter Try.func33, Try.ntmps33
    go_wp2
    go_ret
    refine ⟨rfl, by simp [World.setCell], fun k hk => (Below.heap_setCell _ _ _ _ hk).trans (Below.heap_setCell _ _ _ _ hk), (Turn.set w HF.out _).trans (Turn.set _ HF.out _), fun q c v h => ?_⟩
    refine h.headset (fun k hk => (Below.heap_setCell _ _ _ _ hk).trans (Below.heap_setCell _ _ _ _ hk)) (by simp [World.setCell]) (powered_keeps D).1 (powered_keeps D).2 HK.out ?_
    rw [EP.out]
    exact (h.head.setAt 2 (by simp) (.int .i64 (-1))).setAt 3 (by simp) (.bool true)
  · have ep : powered D = { D with left := D.left - 1 } := by unfold powered; rw [if_neg hn, if_neg hz]
    rw [if_neg hz]
    have EP := Lib.hid ep
    have wl : IntKind.i64.wrap (D.left - 1) = D.left - 1 := IntWalk.i64_in _ (by omega)
    clear ep
    go_enter Try.func33, Try.ntmps33
    go_wp2
    go_ret
    refine ⟨rfl, by simp [World.setCell], fun k hk => (Below.heap_setCell _ _ _ _ hk), (Turn.set w HF.out _), fun q c v h => ?_⟩
    refine h.headset (fun k hk => (Below.heap_setCell _ _ _ _ hk)) (by simp [World.setCell]) (powered_keeps D).1 (powered_keeps D).2 HK.out ?_
    rw [EP.out]
    exact h.head.setAt 2 (by simp) (.int .i64 (D.left - 1))

theorem len_any (w : World) (h : DiskAt F w p q D) : Calls Try.prog 29 #[.pointer (some ⟨p, 0, none⟩)] w fun e w' => e = .returned (.int .i64 (D.blks.length : Int)) ∧ w = w' := by
  obtain ⟨c, v, h⟩ := h
  obtain ⟨h0, _⟩ := h.head.get 0 _ rfl
  clear h
  go_enter Try.func29, Try.ntmps29
  go_wp2
  go_ret
  exact ⟨rfl, rfl⟩

theorem down_any (w : World) (h : DiskAt F w p q D) : Calls Try.prog 13 #[.pointer (some ⟨p, 0, none⟩)] w fun e w' => e = .returned (.bool D.down) ∧ w = w' := by
  obtain ⟨c, v, h⟩ := h
  obtain ⟨h3, _⟩ := h.head.get 3 _ rfl
  clear h
  go_enter Try.func13, Try.ntmps13
  go_wp2
  go_ret
  exact ⟨rfl, rfl⟩
end

end Go.Proofs.Ytdnhlpddnbholaa
