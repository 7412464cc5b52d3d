/-
  A list of operations that comes in.
-/
import Derived.Test.YtdnhlpddnbholaaDkZf
namespace Go.Proofs.Ytdnhlpddnbholaa
open Go.ChangeShapes Go.WideShapes Go.ChangeAt Go.RowKit Go.Joins Go.Deep
set_option linter.unusedVariables false

structure OpL where
  what : UInt8
  at_ : Int
  B : Option Addr
  bn : Nat
  bc : Nat
  bs : List UInt8
  K : Option Addr
  kn : Nat
  kc : Nat
  keep : List Bool
  torn : Int
  cut : Int
instance : Inhabited OpL := ⟨⟨0, 0, none, 0, 0, [], none, 0, 0, [], 0, 0⟩⟩
def opcell (o : OpL) : List Value := [.int .u8 (o.what.toNat : Int), .int .i64 o.at_, .slice o.B o.bn o.bc, .slice o.K o.kn o.kc, .int .i64 o.torn, .int .i64 o.cut]
def opcells (l : List OpL) : List Value := l.flatMap opcell
theorem opcells_length (l : List OpL) : (opcells l).length = l.length * 6 := by
  induction l with
  | nil => rfl
  | cons x l ih => unfold opcells at ih ⊢; rw [List.flatMap_cons, List.length_append, ih]; simp [opcell]; omega
theorem opcells_get : ∀ (l : List OpL) (i j : Nat) (h : i < l.length) (hj : j < 6), (opcells l)[i * 6 + j]? = (opcell l[i])[j]?
  | x :: l, 0, j, _, hj => by
    show (opcell x ++ opcells l)[0 * 6 + j]? = _
    rw [Nat.zero_mul, Nat.zero_add, List.getElem?_append_left (by simpa [opcell] using hj)]
    rfl
  | x :: l, i + 1, j, h, hj => by
    have ih := opcells_get l i j (by simpa using h) hj
    show (opcell x ++ opcells l)[(i + 1) * 6 + j]? = _
    rw [List.getElem?_append_right (by simp [opcell]; omega), show (i + 1) * 6 + j - (opcell x).length = i * 6 + j by simp [opcell]; omega, ih]
    rfl
/-- What is known of one. -/
structure OpOk (w : World) (o : OpL) : Prop where
  lo : -9223372036854775808 ≤ o.at_
  hi : o.at_ ≤ 9223372036854775807
  b : Reads8 w o.B o.bn o.bs
  bcap : o.bn ≤ o.bc
  bmax : o.bc ≤ maxLen
  klen : o.keep.length = o.kn
  k : Cells w o.K (kcells o.keep)
  kcap : o.kn ≤ o.kc
  kmax : o.kc ≤ maxLen
  kfar : o.keep = [] ∨ ∀ a, o.K = some a → a.block < w.heap.size
theorem OpOk.keep' {w w' : World} {o : OpL} (h : OpOk w o) (hb : Below w.heap.size w w') : OpOk w' o :=
  ⟨h.lo, h.hi, h.b.keep hb, h.bcap, h.bmax, h.klen, h.k.keep hb, h.kcap, h.kmax, h.kfar.imp id fun h2 a e => Nat.lt_of_lt_of_le (h2 a e) hb.size⟩
/-- The k-th of a slice that reads as l. -/
theorem Cells.op {w : World} {A : Option Addr} {l : List OpL} (h : Cells w A (opcells l)) {k : Nat} (hk : k < l.length) : ∃ b o, A = some ⟨b, o, none⟩ ∧ b < w.heap.size ∧ ∀ j v, (opcell l[k])[j]? = some v → w.cell? ⟨b, o + k * 6 + j, none⟩ = some v := by
  have hl := opcells_length l
  obtain ⟨b, o, e, hc⟩ := h (by omega)
  refine ⟨b, o, e, hc.lt, fun j v hv => ?_⟩
  have hj : j < 6 := by
    have := (List.getElem?_eq_some_iff.1 hv).1
    simpa [opcell] using this
  rw [Nat.add_assoc, hc.cell (k * 6 + j) (by omega), ← List.getElem?_eq_getElem, opcells_get l k j hk hj, hv]

theorem cellsOp : Try.prog.cellsOf 56 = 6 := by kernel_rfl
section
variable {H : Type} {enc : TypeId × Value → H} {W : World}
theorem crash_cells {fuel : Nat} {v3 v4 v5 : Value} {x : DataW H × List MemPlace} (h : DataW.trod enc Try.prog W 0 (fun _ => true) true fuel 25 [v3, v4, v5] = some x) :
    ∃ (K : Option Addr) (kn kc : Nat) (keep : List Bool) (torn cut : Int), v3 = .slice K kn kc ∧ v4 = .int .i64 torn ∧ v5 = .int .i64 cut ∧ keep.length = kn ∧ Cells W K (kcells keep) ∧ kn ≤ kc ∧ kc ≤ maxLen ∧ (keep = [] ∨ ∀ a, K = some a → a.block < W.heap.size) := by
  obtain ⟨xs, k, _, _, _, hxl, hf⟩ := DataW.trod_struct Try.underlying25 h
  match xs, hxl with
  | [y0, y1, y2], _ =>
    have g0 := hf 0 _ rfl
    have g1 := hf 1 _ rfl
    have g2 := hf 2 _ rfl
    have c23 : Try.prog.cellsOf 23 = 1 := by kernel_rfl
    have c3 : Try.prog.cellsOf 3 = 1 := by kernel_rfl
    simp [c23, c3] at g0 g1 g2
    obtain ⟨x1, e1, _, f1⟩ := DataW.trod_int Try.underlying3 g1
    obtain ⟨x2, e2, _, f2⟩ := DataW.trod_int Try.underlying3 g2
    simp at e1 e2
    subst e1 e2
    rcases open_bools Try.underlying23 Try.underlying4 (by kernel_rfl) g0 with ⟨hcs, _⟩ | ⟨a, len, cap, B, hcs, _, hl, hm, _, hi⟩
    · simp at hcs
      subst hcs
      exact ⟨none, 0, 0, [], x1, x2, rfl, rfl, rfl, rfl, Cells.nil _ _, Nat.le_refl _, Nat.zero_le _, .inl rfl⟩
    · simp at hcs
      subst hcs
      by_cases h0 : len = 0
      · subst h0
        exact ⟨some a, 0, cap, [], x1, x2, rfl, rfl, rfl, rfl, Cells.nil _ _, hl, hm, .inl rfl⟩
      · obtain ⟨b, o, spot⟩ := a
        have h00 := hi 0 (by omega)
        have hspot : spot = none := by simpa [Addr.add] using World.cell?_spot h00
        subst hspot
        have hb : b < W.heap.size := by
          have := World.block_lt_of_cell? W _ h00
          simpa [Addr.add] using this
        refine ⟨some ⟨b, o, none⟩, len, cap, (List.range len).map B, x1, x2, rfl, rfl, rfl, by simp, fun _ => ⟨b, o, rfl, hb, fun j hj => ?_⟩, hl, hm, .inr fun a e => by injection e with e; rw [← e]; exact hb⟩
        have hj' : j < len := by simpa [kcells] using hj
        have h1 := hi j (by omega)
        rw [Addr.add_lit'] at h1
        rw [h1]
        simp [kcells]

theorem op_cells {fuel : Nat} {cs : List Value} {x : DataW H × List MemPlace} (h : DataW.trod enc Try.prog W 0 (fun _ => true) true fuel 56 cs = some x) : ∃ o, cs = opcell o ∧ OpOk W o := by
  obtain ⟨xs, k, _, _, hcl, hxl, hf⟩ := DataW.trod_struct Try.underlying56 h
  rw [cellsOp] at hcl
  match xs, hxl, cs, hcl with
  | [y0, y1, y2, y3], _, [v0, v1, v2, v3, v4, v5], _ =>
    have g0 := hf 0 _ rfl
    have g1 := hf 1 _ rfl
    have g2 := hf 2 _ rfl
    have g3 := hf 3 _ rfl
    have c5 : Try.prog.cellsOf 5 = 1 := by kernel_rfl
    have c37 : Try.prog.cellsOf 37 = 1 := by kernel_rfl
    have c3 : Try.prog.cellsOf 3 = 1 := by kernel_rfl
    simp [c5, c37, c3, cellsCrash] at g0 g1 g2 g3
    obtain ⟨x0, e0, _, f0⟩ := DataW.trod_int Try.underlying5 g0
    obtain ⟨x1, e1, _, f1⟩ := DataW.trod_int Try.underlying3 g1
    simp at e0 e1
    subst e0 e1
    obtain ⟨u, rfl⟩ := u8_of f0
    have b1 := bounds_i64 f1
    obtain ⟨K, kn, kc, keep, torn, cut, rfl, rfl, rfl, k1, k2, k3, k4, k5⟩ := crash_cells g3
    obtain ⟨B, bn, bc, bs, rfl, j1, j2, j3⟩ : ∃ B bn bc bs, v2 = .slice B bn bc ∧ Reads8 W B bn bs ∧ bn ≤ bc ∧ bc ≤ maxLen := by
      rcases open_ints Try.underlying37 Try.underlying5 (by kernel_rfl) g2 with ⟨hcs, _⟩ | ⟨a, l, c, zs, hcs, _, hl, hm, hz, _, hcell, hwz⟩
      · simp at hcs
        subst hcs
        obtain ⟨bs, h1, h2, h3⟩ := rd8_of_row (w := W) (a := none) (len := 0) (cap := 0) (zs := []) (.inl ⟨rfl, rfl, rfl, rfl⟩)
        exact ⟨none, 0, 0, bs, rfl, h1, h2, h3⟩
      · simp at hcs
        subst hcs
        obtain ⟨bs, h1, h2, h3⟩ := rd8_of_row (zs := zs) (.inr ⟨_, rfl, hl, hm, by simpa using hz, hcell, hwz⟩)
        exact ⟨some a, l, c, bs, rfl, h1, h2, h3⟩
    exact ⟨⟨u, x1, B, bn, bc, bs, K, kn, kc, keep, torn, cut⟩, rfl, b1.1, b1.2, j1, j2, j3, k1, k2, k3, k4, k5⟩

theorem open_ops {b0 : Nat} {v : Value} {d : DataW H} {p : List MemPlace}
    (hv : Value.okWide Try.prog W .any b0 48 v) (h : DataW.Trod enc Try.prog W 0 (fun _ => true) true 48 v d p) :
    ∃ (A : Option Addr) (n c : Nat) (l : List OpL), v = .slice A n c ∧ l.length = n ∧ Cells W A (opcells l) ∧ (∀ o ∈ l, OpOk W o) ∧ n ≤ c ∧ c ≤ maxLen := by
  obtain ⟨A, n, c, rfl⟩ := okWide_slice Try.underlying48 hv
  obtain ⟨fuel, hf⟩ := h
  rcases open_slice Try.underlying48 hf with ⟨hcs, _⟩ | ⟨a, len, cap, m, k, D, Pl, hcs, _, hl, hm, hmm, _, hx⟩
  · simp [Value.cells] at hcs
    obtain ⟨rfl, rfl, rfl⟩ := hcs
    exact ⟨none, 0, 0, [], rfl, rfl, Cells.nil _ _, (fun o ho => by cases ho), Nat.le_refl _, Nat.zero_le _⟩
  · simp [Value.cells] at hcs
    obtain ⟨rfl, rfl, rfl⟩ := hcs
    have hm2 : m = c := by simpa using hmm
    have each : ∀ i, i < n → ∃ o : OpL, OpOk W o ∧ W.cells? 0 (a.add (i * 6)) 6 = some (opcell o) := fun i hi => by
      obtain ⟨cs', h1, h2⟩ := hx i (by omega)
      rw [cellsOp] at h1
      obtain ⟨o, rfl, ho⟩ := op_cells h2
      exact ⟨o, ho, h1⟩
    obtain ⟨q, hq⟩ := choose_lt each
    refine ⟨some a, n, c, (List.range n).map q, rfl, by simp, fun h0 => ?_, fun o ho => ?_, hl, hm⟩
    · rw [opcells_length, List.length_map, List.length_range] at h0
      obtain ⟨b, o, spot⟩ := a
      have h00 : W.cell? ((⟨b, o, spot⟩ : Addr).add 0) = some (.int .u8 ((q 0).what.toNat : Int)) := by
        obtain ⟨_, hlen, hcell⟩ := World.cells?_some (hq 0 (by omega)).2
        have := hcell 0 (by omega)
        rw [add_add] at this
        simpa [opcell] using this
      have hspot : spot = none := by simpa [Addr.add] using World.cell?_spot h00
      subst hspot
      have hb : b < W.heap.size := by
        have := World.block_lt_of_cell? W _ h00
        simpa [Addr.add] using this
      refine ⟨b, o, rfl, hb, fun j hj => ?_⟩
      rw [opcells_length, List.length_map, List.length_range] at hj
      have hi : j / 6 < n := by omega
      obtain ⟨_, hlen, hcell⟩ := World.cells?_some (hq (j / 6) hi).2
      have h1 := hcell (j % 6) (by omega)
      have hg := opcells_get ((List.range n).map q) (j / 6) (j % 6) (by simpa using hi) (by omega)
      rw [show j / 6 * 6 + j % 6 = j by omega] at hg
      rw [add_add, Addr.add_lit', show o + (j / 6 * 6 + j % 6) = o + j by omega] at h1
      rw [h1, ← List.getElem?_eq_getElem, hg]
      simp
    · obtain ⟨i, hi, rfl⟩ := List.mem_map.1 ho
      exact (hq i (List.mem_range.1 hi)).1
end

end Go.Proofs.Ytdnhlpddnbholaa
