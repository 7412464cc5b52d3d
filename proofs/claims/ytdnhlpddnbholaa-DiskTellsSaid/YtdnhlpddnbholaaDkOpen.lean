/-
  What comes in, opened: bytes, numbers, a crash, writes of one byte.
-/
import Derived.Test.YtdnhlpddnbholaaDkL
import Derived.Deep.SlicePairs
import Derived.Deep.Grids
import Derived.Lib.SmallJoins
import Derived.OpenShut
namespace Go.Proofs.Ytdnhlpddnbholaa
open Go.ChangeShapes Go.WideShapes Go.ChangeAt Go.RowKit Go.Joins Go.Deep
set_option linter.unusedVariables false

theorem rd8_of_row {w : World} {a : Option Addr} {len cap : Nat} {zs : List Int}
    (h : (a = none ∧ len = 0 ∧ cap = 0 ∧ zs = []) ∨ ∃ x, a = some x ∧ len ≤ cap ∧ cap ≤ maxLen ∧ zs.length = cap ∧ (∀ i, i < zs.length → w.cell? (x.add i) = some (.int .u8 (zs.getD i 0))) ∧ ∀ n ∈ zs, (Lit.int .u8 n).wf = true) :
    ∃ l, Reads8 w a len l ∧ len ≤ cap ∧ cap ≤ maxLen := by
  rcases h with ⟨rfl, rfl, rfl, rfl⟩ | ⟨x, rfl, hl, hm, hz, hc, hw⟩
  · exact ⟨[], Reads8.nil _ _, Nat.le_refl _, Nat.zero_le _⟩
  · refine ⟨(zs.take len).map (fun n => UInt8.ofNat n.toNat), ⟨by simp; omega, fun h0 => ?_⟩, hl, hm⟩
    obtain ⟨b, o, spot⟩ := x
    have h0' := hc 0 (by omega)
    have hspot : spot = none := by simpa [Addr.add] using World.cell?_spot h0'
    subst hspot
    refine ⟨b, o, rfl, ?_, fun j hj => ?_⟩
    · have := World.block_lt_of_cell? w _ h0'
      simpa [Addr.add] using this
    · have hj' : j < len := by simp at hj; omega
      have h1 := hc j (by omega)
      rw [Addr.add_lit'] at h1
      rw [h1]
      have h2 : zs.getD j 0 = zs[j]'(by omega) := by simp [List.getD, show j < zs.length by omega]
      have h3 := hw (zs[j]'(by omega)) (List.getElem_mem _)
      have h4 := bounds_u8 h3
      rw [h2]
      simp only [List.getElem_map, List.getElem_take]
      congr 2
      simp
      omega
theorem u8_of {a : Int} (h : (Lit.int .u8 a).wf = true) : ∃ u : UInt8, a = (u.toNat : Int) := by
  have hb := bounds_u8 h
  refine ⟨UInt8.ofNat a.toNat, ?_⟩
  simp
  omega

theorem cellsCrash : Try.prog.cellsOf 25 = 3 := by kernel_rfl
theorem cellsPut : Try.prog.cellsOf 36 = 2 := by kernel_rfl

theorem open_crash {H : Type} {enc : TypeId × Value → H} {W : World} {b0 : Nat} {v : Value} {d : DataW H} {p : List MemPlace}
    (hv : Value.okWide Try.prog W .any b0 25 v) (h : DataW.Trod enc Try.prog W 0 (fun _ => true) true 25 v d p) :
    ∃ (K : Option Addr) (kn kc : Nat) (keep : List Bool) (torn cut : Int), v = .agg #[.slice K kn kc, .int .i64 torn, .int .i64 cut] ∧ keep.length = kn ∧ Cells W K (kcells keep) ∧ kn ≤ kc ∧ kc ≤ maxLen ∧ (-9223372036854775808 ≤ torn ∧ torn ≤ 9223372036854775807) ∧ (-9223372036854775808 ≤ cut ∧ cut ≤ 9223372036854775807) ∧ (∀ a, K = some a → a.block < W.heap.size ∨ keep = []) := by
  obtain ⟨c0, c1, c2, y0, y1, y2, m, rfl, _, _, hy0, hy1, hy2⟩ := open_agg3 Try.underlying25 (by kernel_rfl) cellsCrash hv h
  obtain ⟨x1, e1, _, f1⟩ := DataW.trod_int Try.underlying3 hy1
  obtain ⟨x2, e2, _, f2⟩ := DataW.trod_int Try.underlying3 hy2
  simp at e1 e2
  subst e1 e2
  have b1 := bounds_i64 f1
  have b2 := bounds_i64 f2
  rcases open_bools Try.underlying23 Try.underlying4 (by kernel_rfl) hy0 with ⟨hcs, _⟩ | ⟨a, len, cap, B, hcs, _, hl, hm, _, hi⟩
  · simp at hcs
    subst hcs
    exact ⟨none, 0, 0, [], x1, x2, rfl, rfl, Cells.nil _ _, Nat.le_refl _, Nat.zero_le _, b1, b2, fun a e => by cases e⟩
  · simp at hcs
    subst hcs
    by_cases h0 : len = 0
    · subst h0
      exact ⟨some a, 0, cap, [], x1, x2, rfl, rfl, Cells.nil _ _, hl, hm, b1, b2, fun _ _ => .inr rfl⟩
    · obtain ⟨b, o, spot⟩ := a
      have h00 := hi 0 (by omega)
      have hspot : spot = none := by simpa [Addr.add] using World.cell?_spot h00
      subst hspot
      have hb : b < W.heap.size := by
        have := World.block_lt_of_cell? W _ h00
        simpa [Addr.add] using this
      refine ⟨some ⟨b, o, none⟩, len, cap, (List.range len).map B, x1, x2, rfl, by simp, fun _ => ⟨b, o, rfl, hb, fun j hj => ?_⟩, hl, hm, b1, b2, fun a e => by injection e with e; rw [← e]; exact .inl hb⟩
      have hj' : j < len := by simpa [kcells] using hj
      have h1 := hi j (by omega)
      rw [Addr.add_lit'] at h1
      rw [h1]
      simp [kcells]

/-- Writes of one byte, as cells. -/
def putcells (l : List (UInt8 × UInt8)) : List Value := l.flatMap fun x => [.int .u8 (x.1.toNat : Int), .int .u8 (x.2.toNat : Int)]
theorem putcells_length (l : List (UInt8 × UInt8)) : (putcells l).length = l.length * 2 := by
  induction l with
  | nil => rfl
  | cons x l ih => unfold putcells at ih ⊢; rw [List.flatMap_cons, List.length_append, ih, List.length_cons]; simp; omega
theorem putcells_get : ∀ (l : List (UInt8 × UInt8)) (i : Nat) (h : i < l.length), (putcells l)[i * 2]? = some (.int .u8 (l[i].1.toNat : Int)) ∧ (putcells l)[i * 2 + 1]? = some (.int .u8 (l[i].2.toNat : Int))
  | x :: l, 0, _ => ⟨rfl, rfl⟩
  | x :: l, i + 1, h => by
    have ih := putcells_get l i (by simpa using h)
    have e : putcells (x :: l) = .int .u8 (x.1.toNat : Int) :: .int .u8 (x.2.toNat : Int) :: putcells l := rfl
    rw [e, show (i + 1) * 2 = i * 2 + 1 + 1 by omega, show i * 2 + 1 + 1 + 1 = (i * 2 + 1) + 1 + 1 by omega]
    simpa using ih

theorem puts_of {w : World} {b o len : Nat} (V0 V1 : Nat → Value) (hlt : 0 < len → b < w.heap.size)
    (h : ∀ i, i < len → w.cell? ⟨b, o + i * 2, none⟩ = some (V0 i) ∧ w.cell? ⟨b, o + (i * 2 + 1), none⟩ = some (V1 i) ∧ (∃ x : UInt8, V0 i = .int .u8 (x.toNat : Int)) ∧ ∃ y : UInt8, V1 i = .int .u8 (y.toNat : Int)) :
    ∃ l : List (UInt8 × UInt8), l.length = len ∧ Cells w (some ⟨b, o, none⟩) (putcells l) := by
  have key : ∀ i, i < len → ∃ e : UInt8 × UInt8, V0 i = .int .u8 (e.1.toNat : Int) ∧ V1 i = .int .u8 (e.2.toNat : Int) := by
    intro i hi
    obtain ⟨_, _, ⟨x, hx⟩, ⟨y, hy⟩⟩ := h i hi
    exact ⟨(x, y), hx, hy⟩
  obtain ⟨f, hf⟩ : ∃ f : Nat → UInt8 × UInt8, ∀ i, i < len → V0 i = .int .u8 ((f i).1.toNat : Int) ∧ V1 i = .int .u8 ((f i).2.toNat : Int) := by
    refine ⟨fun i => if hi : i < len then (key i hi).choose else (0, 0), fun i hi => ?_⟩
    dsimp only
    rw [dif_pos hi]
    exact (key i hi).choose_spec
  refine ⟨(List.range len).map f, by simp, fun h0 => ⟨b, o, rfl, hlt (by rw [putcells_length] at h0; simp at h0; omega), fun j hj => ?_⟩⟩
  rw [putcells_length] at hj
  have hj : j < len * 2 := by simpa using hj
  obtain ⟨i, hi, hji⟩ : ∃ i, i < len ∧ (j = i * 2 ∨ j = i * 2 + 1) := ⟨j / 2, by omega, by omega⟩
  have hil : i < ((List.range len).map f).length := by simpa using hi
  obtain ⟨g0, g1⟩ := putcells_get _ i hil
  obtain ⟨c0, c1, _, _⟩ := h i hi
  obtain ⟨f0, f1⟩ := hf i hi
  rcases hji with rfl | rfl
  · rw [c0, f0, ← List.getElem?_eq_getElem, g0]; simp
  · rw [c1, f1, ← List.getElem?_eq_getElem, g1]; simp

theorem open_puts {H : Type} {enc : TypeId × Value → H} {W : World} {b0 : Nat} {v : Value} {d : DataW H} {p : List MemPlace}
    (hv : Value.okWide Try.prog W .any b0 22 v) (h : DataW.Trod enc Try.prog W 0 (fun _ => true) true 22 v d p) :
    ∃ (A : Option Addr) (n c : Nat) (l : List (UInt8 × UInt8)), v = .slice A n c ∧ l.length = n ∧ Cells W A (putcells l) ∧ n ≤ c ∧ c ≤ maxLen := by
  obtain ⟨A, n, c, rfl⟩ := okWide_slice Try.underlying22 hv
  obtain ⟨fuel, hf⟩ := h
  rcases open_slice_pairs Try.underlying22 Try.underlying36 cellsPut rfl rfl (by kernel_rfl) (by kernel_rfl) hf with ⟨hcs, _⟩ | ⟨a, len, cap, m', n', V0, V1, D0, D1, P0, P1, hcs, _, hl, hm, hmm, _, hi⟩
  · simp [Value.cells] at hcs
    obtain ⟨rfl, rfl, rfl⟩ := hcs
    exact ⟨none, 0, 0, [], rfl, rfl, Cells.nil _ _, Nat.le_refl _, Nat.zero_le _⟩
  · simp [Value.cells] at hcs
    obtain ⟨rfl, rfl, rfl⟩ := hcs
    by_cases h0 : n = 0
    · subst h0
      exact ⟨some a, 0, c, [], rfl, rfl, Cells.nil _ _, hl, hm⟩
    · have hm2 : m' = c := by simpa using hmm
      obtain ⟨b, o, spot⟩ := a
      have h00 := (hi 0 (by omega)).1
      have hspot : spot = none := by simpa [Addr.add] using World.cell?_spot h00
      subst hspot
      have hb : b < W.heap.size := by
        have := World.block_lt_of_cell? W _ h00
        simpa [Addr.add] using this
      obtain ⟨l, h1, h2⟩ := puts_of (w := W) (b := b) (o := o) (len := n) V0 V1 (fun _ => hb) (fun i hil => by
        obtain ⟨q0, q1, q2, q3⟩ := hi i (by omega)
        rw [Addr.add_lit'] at q0 q1
        obtain ⟨z0, ez0, _, w0⟩ := DataW.trod_int Try.underlying5 q2
        obtain ⟨z1, ez1, _, w1⟩ := DataW.trod_int Try.underlying5 q3
        simp at ez0 ez1
        obtain ⟨x, rfl⟩ := u8_of w0
        obtain ⟨y, rfl⟩ := u8_of w1
        exact ⟨q0, q1, ⟨x, ez0⟩, ⟨y, ez1⟩⟩)
      exact ⟨_, n, c, l, rfl, h1, h2, hl, hm⟩

end Go.Proofs.Ytdnhlpddnbholaa
