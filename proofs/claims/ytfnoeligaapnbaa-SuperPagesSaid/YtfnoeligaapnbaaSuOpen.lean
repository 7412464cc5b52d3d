/-
  A super that comes in, opened.
-/
import Derived.Test.YtfnoeligaapnbaaSuG
import Derived.Lib.SmallJoins
import Derived.OpenShut
namespace Go.Proofs.Ytfnoeligaapnbaa
open Go.ChangeShapes Go.WideShapes Go.ChangeAt Go.RowKit Go.Joins
set_option linter.unusedVariables false

theorem cellsSuper : Try.prog.cellsOf 27 = 18 := by kernel_rfl
theorem cellsU64 : Try.prog.cellsOf 22 = 1 := by kernel_rfl
theorem cellsU32 : Try.prog.cellsOf 23 = 1 := by kernel_rfl
theorem cellsA32 : Try.prog.cellsOf 24 = 8 := by kernel_rfl
theorem cellsA64 : Try.prog.cellsOf 25 = 8 := by kernel_rfl

/-- Eighteen cells of the right kinds are a super's. -/
theorem sup_of_cells (l : List Value) (hl : l.length = 18) (h : ∀ k, k < 18 → ∃ n : Nat, n < 256 ^ fsize k ∧ l[k]? = some (cellv k n)) : ∃ s : Sup, l = scells s := by
  obtain ⟨f, hf⟩ : ∃ f : Nat → Nat, ∀ k, k < 18 → f k < 256 ^ fsize k ∧ l[k]? = some (cellv k (f k)) := by
    refine ⟨fun k => if hk : k < 18 then (h k hk).choose else 0, fun k hk => ?_⟩
    dsimp only
    rw [dif_pos hk]
    exact (h k hk).choose_spec
  refine ⟨supF f, List.ext_getElem? fun k => ?_⟩
  by_cases hk : k < 18
  · rw [(hf k hk).2, scells_at _ k hk, fval_supF f k hk (hf k hk).1]
  · rw [List.getElem?_eq_none (by omega), List.getElem?_eq_none (by rw [scells_length]; omega)]

theorem nat_u64 {n : Int} (h : (Lit.int .u64 n).wf = true) : ∃ m : Nat, m < 18446744073709551616 ∧ n = (m : Int) := by
  have := bounds_u64 h
  exact ⟨n.toNat, by omega, by omega⟩
theorem nat_u32 {n : Int} (h : (Lit.int .u32 n).wf = true) : ∃ m : Nat, m < 4294967296 ∧ n = (m : Int) := by
  have := bounds_u32 h
  exact ⟨n.toNat, by omega, by omega⟩

section
variable {H : Type} {enc : TypeId × Value → H} {w : World} {base : Nat} {spare : Nat → Bool} {held : Bool} {fuel : Nat} {cs : List Value} {x : DataW H × List MemPlace}
theorem arr32 (h : DataW.trod enc Try.prog w base spare held fuel 24 cs = some x) (i : Nat) (hi : i < 8) : ∃ n : Nat, n < 4294967296 ∧ cs[i]? = some (.int .u32 (n : Int)) := by
  obtain ⟨xs, m, _, _, hlen, hxl, hel⟩ := DataW.trod_array Try.underlying24 h
  have g := hel i hi
  rw [cellsU32, Nat.mul_one, List.getElem?_eq_getElem (by omega)] at g
  obtain ⟨n, e, _, hw⟩ := DataW.trod_int Try.underlying23 g
  obtain ⟨m', hm, rfl⟩ := nat_u32 hw
  refine ⟨m', hm, ?_⟩
  have := congrArg (fun l => l[0]?) e
  simpa [List.getElem?_take, List.getElem?_drop] using this
theorem arr64 (h : DataW.trod enc Try.prog w base spare held fuel 25 cs = some x) (i : Nat) (hi : i < 8) : ∃ n : Nat, n < 18446744073709551616 ∧ cs[i]? = some (.int .u64 (n : Int)) := by
  obtain ⟨xs, m, _, _, hlen, hxl, hel⟩ := DataW.trod_array Try.underlying25 h
  have g := hel i hi
  rw [cellsU64, Nat.mul_one, List.getElem?_eq_getElem (by omega)] at g
  obtain ⟨n, e, _, hw⟩ := DataW.trod_int Try.underlying22 g
  obtain ⟨m', hm, rfl⟩ := nat_u64 hw
  refine ⟨m', hm, ?_⟩
  have := congrArg (fun l => l[0]?) e
  simpa [List.getElem?_take, List.getElem?_drop] using this
end

theorem open_super {H : Type} {enc : TypeId × Value → H} {W : World} {b0 : Nat} {v : Value} {d : DataW H} {p : List MemPlace}
    (hv : Value.okWide Try.prog W .any b0 27 v) (h : DataW.Trod enc Try.prog W 0 (fun _ => true) true 27 v d p) : ∃ s : Sup, v = sval s := by
  obtain ⟨cs, rfl, hsz⟩ := okWide_struct Try.underlying27 hv
  obtain ⟨fuel, hf⟩ := h
  obtain ⟨xs, n, _, hx, hl, hlen, hg⟩ := DataW.trod_struct Try.underlying27 hf
  rw [cellsSuper] at hsz
  have key : ∃ s : Sup, cs.toList = scells s := by
    refine sup_of_cells _ (by simpa using hsz) fun k hk => ?_
    match xs, hlen with
    | [y0, y1, y2, y3], _ =>
      have g0 := hg 0 _ rfl
      have g1 := hg 1 _ rfl
      have g2 := hg 2 _ rfl
      have g3 := hg 3 _ rfl
      simp only [cellsU64, cellsU32, cellsA32, cellsA64, Value.cells] at g0 g1 g2 g3
      have at2 : ∀ o m i, i < m → ((cs.toList.drop o).take m)[i]? = cs.toList[o + i]? := fun o m i hi => by rw [List.getElem?_take, if_pos hi, List.getElem?_drop]
      rcases (show k = 0 ∨ k = 1 ∨ (∃ i, i < 8 ∧ k = 2 + i) ∨ (∃ i, i < 8 ∧ k = 10 + i) by
        by_cases h0 : k = 0
        · exact .inl h0
        by_cases h1 : k = 1
        · exact .inr (.inl h1)
        by_cases h9 : k < 10
        · exact .inr (.inr (.inl ⟨k - 2, by omega, by omega⟩))
        · exact .inr (.inr (.inr ⟨k - 10, by omega, by omega⟩))) with rfl | rfl | ⟨i, hi, rfl⟩ | ⟨i, hi, rfl⟩
      · obtain ⟨z, e, _, hw⟩ := DataW.trod_int Try.underlying22 g0
        obtain ⟨m, hm, rfl⟩ := nat_u64 hw
        refine ⟨m, hm, ?_⟩
        have := congrArg (fun l => l[0]?) e
        rw [← at2 0 1 0 (by omega)]
        exact this
      · obtain ⟨z, e, _, hw⟩ := DataW.trod_int Try.underlying23 g1
        obtain ⟨m, hm, rfl⟩ := nat_u32 hw
        refine ⟨m, hm, ?_⟩
        have := congrArg (fun l => l[0]?) e
        rw [← at2 1 1 0 (by omega)]
        exact this
      · obtain ⟨m, hm, e⟩ := arr32 g2 i hi
        have hs : fsize (2 + i) = 4 := by unfold fsize; rw [if_neg (by omega), if_pos (by omega)]
        refine ⟨m, by rw [hs]; exact hm, ?_⟩
        rw [← at2 2 8 i hi]
        unfold cellv fkind
        rw [hs]
        exact e
      · obtain ⟨m, hm, e⟩ := arr64 g3 i hi
        have hs : fsize (10 + i) = 8 := by unfold fsize; rw [if_neg (by omega), if_neg (by omega)]
        refine ⟨m, by rw [hs]; exact hm, ?_⟩
        rw [← at2 10 8 i hi]
        unfold cellv fkind
        rw [hs]
        exact e
  obtain ⟨s, hs⟩ := key
  exact ⟨s, by unfold sval; rw [← hs]⟩

end Go.Proofs.Ytfnoeligaapnbaa
