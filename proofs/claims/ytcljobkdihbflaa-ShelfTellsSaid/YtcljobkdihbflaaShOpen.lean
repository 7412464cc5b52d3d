/-
  A shelf that comes in, opened.
-/
import Derived.Test.YtcljobkdihbflaaShA
import Derived.Test.YtcljobkdihbflaaShB
import Derived.Deep.SlicePairs
import Derived.Lib.SmallJoins
import Derived.OpenShut
namespace Go.Proofs.Ytcljobkdihbflaa
open Go.ChangeShapes Go.WideShapes Go.ChangeAt Go.RowKit Go.Joins Go.Deep
set_option linter.unusedVariables false

theorem cellsShelf : Try.prog.cellsOf 25 = 3 := by kernel_rfl
theorem cellsEntry : Try.prog.cellsOf 37 = 2 := by kernel_rfl
theorem wf_u64 {n : Int} (h : (Lit.int .u64 n).wf = true) : 0 ≤ n ∧ n < 18446744073709551616 := by
  simp [Lit.wf, IntKind.min, IntKind.max, IntKind.signed, IntKind.bits] at h
  omega
theorem wf_u32 {n : Int} (h : (Lit.int .u32 n).wf = true) : 0 ≤ n ∧ n < 4294967296 := by
  simp [Lit.wf, IntKind.min, IntKind.max, IntKind.signed, IntKind.bits] at h
  omega
theorem wf_u8 {n : Int} (h : (Lit.int .u8 n).wf = true) : 0 ≤ n ∧ n < 256 := by
  simp [Lit.wf, IntKind.min, IntKind.max, IntKind.signed, IntKind.bits] at h
  omega

theorem readsE_of {w : World} {b o len : Nat} (V0 V1 : Nat → Value) (hlt : 0 < len → b < w.heap.size)
    (h : ∀ i, i < len → w.cell? ⟨b, o + i * 2, none⟩ = some (V0 i) ∧ w.cell? ⟨b, o + (i * 2 + 1), none⟩ = some (V1 i) ∧ (∃ x : Nat, V0 i = .int .u64 x ∧ x < 18446744073709551616) ∧ ∃ y : Nat, V1 i = .int .u32 y ∧ y < 4294967296) :
    ∃ l, ReadsE w (some ⟨b, o, none⟩) len l := by
  have key : ∀ i, i < len → ∃ e : Ent, V0 i = .int .u64 (e.1.toNat : Int) ∧ V1 i = .int .u32 (e.2.toNat : Int) := by
    intro i hi
    obtain ⟨_, _, ⟨x, hx, hx2⟩, ⟨y, hy, hy2⟩⟩ := h i hi
    refine ⟨(UInt64.ofNat x, UInt32.ofNat y), ?_, ?_⟩
    · rw [hx]; congr 1; simp; omega
    · rw [hy]; congr 1; simp; omega
  obtain ⟨f, hf⟩ : ∃ f : Nat → Ent, ∀ i, i < len → V0 i = .int .u64 ((f i).1.toNat : Int) ∧ V1 i = .int .u32 ((f i).2.toNat : Int) := by
    refine ⟨fun i => if hi : i < len then (key i hi).choose else e0, fun i hi => ?_⟩
    dsimp only
    rw [dif_pos hi]
    exact (key i hi).choose_spec
  refine ⟨(List.range len).map f, by simp, fun h0 => ⟨b, o, rfl, hlt (by rw [ecells_length] at h0; simp at h0; omega), fun j hj => ?_⟩⟩
  rw [ecells_length] at hj
  have hj : j < len * 2 := by simpa using hj
  obtain ⟨i, hi, hji⟩ : ∃ i, i < len ∧ (j = i * 2 ∨ j = i * 2 + 1) := ⟨j / 2, by omega, by omega⟩
  have hil : i < ((List.range len).map f).length := by simpa using hi
  obtain ⟨g0, g1⟩ := ecells_get _ i hil
  obtain ⟨c0, c1, _, _⟩ := h i hi
  obtain ⟨f0, f1⟩ := hf i hi
  rcases hji with rfl | rfl
  · rw [c0, f0, ← List.getElem?_eq_getElem, g0]; simp
  · rw [c1, f1, ← List.getElem?_eq_getElem, g1]; simp

theorem open_shelf {H : Type} {enc : TypeId × Value → H} {W : World} {b0 : Nat} {v : Value} {d : DataW H} {p : List MemPlace}
    (hv : Value.okWide Try.prog W .any b0 25 v) (h : DataW.Trod enc Try.prog W 0 (fun _ => true) true 25 v d p) :
    ∃ (s : Shelf) (A : Option Addr) (n c : Nat), v = sval s A n c ∧ ReadsE W A n s.ents ∧ n ≤ c ∧ c ≤ maxLen := by
  obtain ⟨c0, c1, c2, y0, y1, y2, m, rfl, _, _, hy0, hy1, hy2⟩ := open_agg3 Try.underlying25 (by kernel_rfl) cellsShelf hv h
  obtain ⟨x0, e0', _, f0⟩ := DataW.trod_int Try.underlying5 hy0
  obtain ⟨x1, e1', _, f1⟩ := DataW.trod_int Try.underlying22 hy1
  simp at e0' e1'
  subst e0' e1'
  have b8 := wf_u8 f0
  have b32 := wf_u32 f1
  have key : ∃ l A n c, c2 = .slice A n c ∧ ReadsE W A n l ∧ n ≤ c ∧ c ≤ maxLen := by
    rcases open_slice_pairs Try.underlying23 Try.underlying37 cellsEntry rfl rfl (by kernel_rfl) (by kernel_rfl) hy2 with ⟨hcs, _⟩ | ⟨a, len, cap, m', n', V0, V1, D0, D1, P0, P1, hcs, _, hl, hm, hmm, _, hi⟩
    · simp at hcs
      subst hcs
      exact ⟨[], none, 0, 0, rfl, ReadsE.nil _ _, Nat.le_refl _, Nat.zero_le _⟩
    · simp at hcs
      subst hcs
      by_cases h0 : len = 0
      · subst h0
        exact ⟨[], some a, 0, cap, rfl, ReadsE.nil _ _, hl, hm⟩
      · have hm2 : m' = cap := by simpa using hmm
        obtain ⟨b, o, spot⟩ := a
        have h00 := (hi 0 (by omega)).1
        have hspot : spot = none := by simpa [Addr.add] using World.cell?_spot h00
        subst hspot
        have hb : b < W.heap.size := by
          have := World.block_lt_of_cell? W _ h00
          simpa [Addr.add] using this
        obtain ⟨l, hl2⟩ := readsE_of (w := W) (b := b) (o := o) (len := len) V0 V1 (fun _ => hb) (fun i hil => by
          obtain ⟨q0, q1, q2, q3⟩ := hi i (by omega)
          rw [Addr.add_lit'] at q0 q1
          obtain ⟨z0, ez0, _, w0⟩ := DataW.trod_int Try.underlying35 q2
          obtain ⟨z1, ez1, _, w1⟩ := DataW.trod_int Try.underlying22 q3
          simp at ez0 ez1
          have r0 := wf_u64 w0
          have r1 := wf_u32 w1
          exact ⟨q0, q1, ⟨z0.toNat, by rw [ez0]; congr 1; omega, by omega⟩, ⟨z1.toNat, by rw [ez1]; congr 1; omega, by omega⟩⟩)
        exact ⟨l, _, len, cap, rfl, hl2, hl, hm⟩
  obtain ⟨l, A, n, c, rfl, hr, hnc, hcm⟩ := key
  refine ⟨⟨UInt8.ofNat x0.toNat, UInt32.ofNat x1.toNat, l⟩, A, n, c, ?_, hr, hnc, hcm⟩
  unfold sval
  have g0 : ((UInt8.ofNat x0.toNat).toNat : Int) = x0 := by simp; omega
  have g1 : ((UInt32.ofNat x1.toNat).toNat : Int) = x1 := by simp; omega
  rw [g0, g1]

end Go.Proofs.Ytcljobkdihbflaa
