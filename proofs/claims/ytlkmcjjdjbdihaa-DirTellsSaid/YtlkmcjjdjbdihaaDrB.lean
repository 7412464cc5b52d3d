/-
  dir.block, run.whole, runs.
-/
import Derived.Test.YtlkmcjjdjbdihaaDrA
import Derived.Test.YtlkmcjjdjbdihaaDrPlain
import Derived.Deep.RegionHeld3
import Derived.Deep.RegionLaw
import Derived.Deep.DrawnRows
import Derived.Maps.Own
import Derived.Maps.OwnOps
import Derived.Maps.Views
namespace Go.Proofs.Ytlkmcjjdjbdihaa
open Go.RowKit Go.Maps
set_option linter.unusedVariables false
attribute [local go_sem ↓] Go.wp_at_zero Go.wp_at_succ

/-- A run's cells. -/
def rcell (r : Run) : List Value := [.int .i64 (r.1 : Int), .int .i64 (r.2 : Int)]
def rcells (l : List Run) : List Value := l.flatMap rcell
theorem rcells_length (l : List Run) : (rcells l).length = l.length * 2 := by
  induction l with
  | nil => rfl
  | cons x l ih => simp only [rcells, List.flatMap_cons, List.length_append, rcell, List.length_cons, List.length_nil] at *; omega
theorem rcells_append (l k : List Run) : rcells (l ++ k) = rcells l ++ rcells k := by simp [rcells]
theorem rcells_cons (x : Run) (l : List Run) : rcells (x :: l) = rcell x ++ rcells l := rfl
theorem rcells_snoc (l : List Run) (e : Run) : rcells (l ++ [e]) = rcells l ++ rcell e := by simp [rcells]
theorem rcells_get : ∀ (l : List Run) (k : Nat) (h : k < l.length), (rcells l)[k * 2]? = some (.int .i64 (l[k].1 : Int)) ∧ (rcells l)[k * 2 + 1]? = some (.int .i64 (l[k].2 : Int))
  | x :: l, 0, _ => ⟨rfl, rfl⟩
  | x :: l, k + 1, h => by
    have := rcells_get l k (by simpa using h)
    rw [rcells_cons, show (k + 1) * 2 = k * 2 + 2 by omega]
    exact this
theorem rcell_one (x : Run) : ∀ u ∈ rcell x, u.oneCell' = true := by
  intro u hu
  simp only [rcell, List.mem_cons, List.not_mem_nil, or_false] at hu
  rcases hu with rfl | rfl <;> rfl
theorem rcells_one (l : List Run) : ∀ u ∈ rcells l, u.oneCell' = true := by
  intro u hu
  obtain ⟨x, _, hx⟩ := List.mem_flatMap.1 hu
  exact rcell_one x u hx

/-- A slice that reads as the runs l. -/
def ReadsR (w : World) (A : Option Addr) (n : Nat) (l : List Run) : Prop := l.length = n ∧ Cells w A (rcells l)
theorem ReadsR.keep {w w' : World} {A : Option Addr} {n : Nat} {l : List Run} (h : ReadsR w A n l) (hb : Below w.heap.size w w') : ReadsR w' A n l := ⟨h.1, h.2.keep hb⟩
theorem ReadsR.nil (w : World) (A : Option Addr) : ReadsR w A 0 [] := ⟨rfl, Cells.nil _ _⟩
theorem ReadsR.getD {w : World} {A : Option Addr} {n k : Nat} {l : List Run} (h : ReadsR w A n l) (hk : k < n) :
    ∃ b o, A = some ⟨b, o, none⟩ ∧ b < w.heap.size ∧ w.cell? ⟨b, o + k * 2, none⟩ = some (.int .i64 ((l.getD k (0, 0)).1 : Int)) ∧ w.cell? ⟨b, o + k * 2 + 1, none⟩ = some (.int .i64 ((l.getD k (0, 0)).2 : Int)) := by
  have hl : k < l.length := by rw [h.1]; exact hk
  have hc2 := rcells_length l
  obtain ⟨b, o, e, hc⟩ := h.2 (by omega)
  obtain ⟨h1, h2⟩ := rcells_get l k hl
  have e2 : l.getD k (0, 0) = l[k] := by simp [List.getD_eq_getElem?_getD, List.getElem?_eq_getElem hl]
  rw [e2]
  refine ⟨b, o, e, hc.lt, ?_, ?_⟩
  · rw [hc.cell (k * 2) (by omega), ← List.getElem?_eq_getElem, h1]
  · rw [Nat.add_assoc, hc.cell (k * 2 + 1) (by omega), ← List.getElem?_eq_getElem, h2]

/-- A slice that the call owns reads as its runs. -/
theorem own_readsR {w : World} {base n : Nat} {e : TypeId} {v : Value} {l : List Run} (h : w.ownsRow base e 2 v n (rcells l)) : ∃ A c, v = .slice A n c ∧ ReadsR w A n l ∧ n ≤ c ∧ c ≤ maxLen := by
  have hl : l.length = n := by have := h.1; rw [rcells_length] at this; omega
  rcases h.2 with ⟨rfl, h0⟩ | ⟨g, cap, cur, rfl, hg, hh, hn, hm, hs, ht⟩
  · have h0 : n = 0 := h0
    subst h0
    have : l = [] := List.eq_nil_of_length_eq_zero hl
    subst this
    exact ⟨none, 0, rfl, ReadsR.nil _ _, Nat.le_refl _, by simp [maxLen]⟩
  · refine ⟨_, cap, rfl, ⟨hl, ?_⟩, hn, hm⟩
    refine (MemC.of_blk hh (fun j hj => ?_) (.inr (by simp))).cells
    have hc := rcells_length l
    have e1 : cur.toList[j]? = (rcells l)[j]? := by rw [← ht, List.getElem?_take]; simp; omega
    rw [Nat.zero_add, ← Array.getElem?_toList, e1, List.getElem?_eq_getElem hj]

theorem ReadsW.getD {w : World} {A : Option Addr} {n k : Nat} {l : List UInt16} (h : ReadsW w A n l) (hk : k < n) : ∃ b o, A = some ⟨b, o, none⟩ ∧ b < w.heap.size ∧ w.cell? ⟨b, o + k, none⟩ = some (.int .u16 ((at_ l k).toNat : Int)) := by
  have hl : k < l.length := by rw [h.1]; exact hk
  obtain ⟨b, o, e, hb, hc⟩ := h.get hl
  refine ⟨b, o, e, hb, ?_⟩
  rw [hc]
  simp [at_, List.getD_eq_getElem?_getD, List.getElem?_eq_getElem hl]

theorem block_any (b : UInt16) (w : World) : Calls Try.prog 34 #[.int .u16 (b.toNat : Int)] w fun e w' => e = .returned (.bool (okb b)) ∧ w = w' := by
  unfold okb
  by_cases h0 : 0 < b.toNat
  · have h0i : (0 : Int) < (b.toNat : Int) := by omega
    by_cases h1 : b.toNat < 4096
    · have h1i : (b.toNat : Int) < 4096 := by omega
      rw [decide_eq_true ⟨h0, h1⟩]
      go_enter Try.func34, Try.ntmps34
      go_wp2
      go_ret
      exact ⟨rfl, rfl⟩
    · have h1i : ¬ (b.toNat : Int) < 4096 := by omega
      rw [decide_eq_false (fun h => h1 h.2)]
      go_enter Try.func34, Try.ntmps34
      go_wp2
      go_ret
      exact ⟨rfl, rfl⟩
  · have h0i : ¬ (0 : Int) < (b.toNat : Int) := by omega
    rw [decide_eq_false (fun h => h0 h.1)]
    go_enter Try.func34, Try.ntmps34
    go_wp2
    go_ret
    exact ⟨rfl, rfl⟩

theorem and_small : ∀ n : Nat, n ≤ 256 → 0 < n → bits .and .i64 (n : Int) ((n : Int) - 1) = ((n &&& (n - 1) : Nat) : Int) := by decide +kernel

set_option maxHeartbeats 1000000 in
theorem whole_any (r : Run) (w : World) (h1 : r.1 < r.2) (h2 : r.2 ≤ 256) : Calls Try.prog 35 #[.agg #[.int .i64 (r.1 : Int), .int .i64 (r.2 : Int)]] w fun e w' => e = .returned (.bool (wholeB r)) ∧ Below w.heap.size w w' := by
  obtain ⟨n, hn⟩ : ∃ n, r.2 = r.1 + n := ⟨r.2 - r.1, by omega⟩
  have hb := and_small n (by omega) (by omega)
  have e1 : (r.2 : Int) - (r.1 : Int) = (n : Int) := by omega
  have hw : wholeB r = (((n &&& (n - 1)) == 0) && (r.1 % n == 0)) := by
    unfold wholeB
    rw [show r.2 - r.1 = n by omega]
  rw [hw]
  have hp : (n : Int) ≠ 0 := by omega
  generalize n &&& (n - 1) = x at *
  by_cases hx : x = 0
  · subst hx
    have hm : ((r.1 : Int) % (n : Int)) = ((r.1 % n : Nat) : Int) := by simp
    have ht : Int.tmod (r.1 : Int) (n : Int) = ((r.1 % n : Nat) : Int) := by simp [Int.tmod_eq_emod_of_nonneg]
    generalize r.1 % n = y at *
    have hy : ((y : Int) == 0) = (y == 0) := by rw [Bool.eq_iff_iff]; simp
    clear hw hn
    have hn1 : n ≤ 256 := by omega
    go_enter Try.func35, Try.ntmps35
    go_wp2
    go_ret
    exact ⟨by simp [hy], (Below.refl _ _).alloc (Nat.le_refl _) _⟩
  · have hy : ((x : Int) == 0) = false := by simpa using hx
    have e : (x == 0) = false := by simpa using hx
    rw [e]
    clear hw hn e
    have hn1 : n ≤ 256 := by omega
    go_enter Try.func35, Try.ntmps35
    go_wp2
    go_ret
    exact ⟨rfl, (Below.refl _ _).alloc (Nat.le_refl _) _⟩

set_option maxHeartbeats 2000000 in
set_option maxRecDepth 100000 in
theorem runs_any (A : Option Addr) (n c : Nat) (l : List UInt16) (w : World) (h : ReadsW w A n l) (hn : n ≤ 256) :
    Calls Try.prog 33 #[.slice A n c] w fun e w' => ∃ v, e = .returned v ∧ w'.ownsRow w.heap.size 56 2 v (runsFrom l 0).length (rcells (runsFrom l 0)) ∧ Below w.heap.size w w' := by
  have HL := Lib.hid h.1
  have HR := Lib.hid h; clear h
  go_enter Try.func33, Try.ntmps33
  go_wp2
  go_loopw [3, 4] (fun v i wr => ∃ (k : Nat) (out : List Run), k ≤ n ∧ i = .int .i64 k ∧ out.length ≤ k ∧ wr.ownsRow w.heap.size 56 2 v out.length (rcells out) ∧ out ++ runsFrom l k = runsFrom l 0 ∧ Below w.heap.size w wr) (fun _ i _ => n - (intOf i).toNat)
  case atStart => exact ⟨0, [], Nat.zero_le _, rfl, Nat.le_refl _, World.ownsRow_nil _ _ _ _, rfl, Below.refl _ _⟩
  case round =>
    obtain ⟨k, out, hk, rfl, hol, hown, hout, hb⟩ := hrel
    have HO := Lib.hid hown; clear hown
    have HT := Lib.hid hout; clear hout
    have HB := Lib.hid hb; clear hb
    by_cases hlt : k < n
    · have hki : (k : Int) < (n : Int) := by omega
      have hk1 : IntKind.i64.wrap ((k : Int) + 1) = ((k + 1 : Nat) : Int) := IntWalk.i64_in _ (by omega)
      go_wp2_with fail
      go_loopw [5] (fun i W => ∃ j : Nat, j ≤ n ∧ k + 1 ≤ j ∧ i = .int .i64 j ∧ endFrom l k j = endFrom l k (k + 1) ∧ Quiet wr W) (fun i _ => n - (intOf i).toNat)
      case atStart => exact ⟨k + 1, by omega, Nat.le_refl _, by go_num, rfl, Quiet.refl _⟩
      case round =>
        obtain ⟨j, hj, hkj, rfl, hend, q, rfl⟩ := hrel
        have HE := Lib.hid hend; clear hend
        obtain ⟨b, o, rfl, hbl, c0⟩ := (HR.out.keep HB.out).getD (k := k) hlt
        have o0 : (0 : Int) ≤ (k : Int) := by omega
        have o1 : (0 : Int) ≤ (j : Int) := by omega
        by_cases hjn : j < n
        · obtain ⟨b', o', e', _, c1⟩ := (HR.out.keep HB.out).getD (k := j) hjn
          injection e' with e'
          injection e' with e1 e2
          subst e1
          subst e2
          have i1 : (j : Int) < (n : Int) := by omega
          obtain ⟨x, hx⟩ : ∃ x, x = at_ l k := ⟨_, rfl⟩
          obtain ⟨y, hy⟩ : ∃ y, y = at_ l j := ⟨_, rfl⟩
          rw [← hx] at c0
          rw [← hy] at c1
          have HX := Lib.hid hx; clear hx
          have HY := Lib.hid hy; clear hy
          by_cases hxy : y = x
          · have hbe : ((y.toNat : Int) == (x.toNat : Int)) = true := by rw [hxy]; simp
            have HXY := Lib.hid hxy; clear hxy
            go_wp2
            go_quiet (fail)
            go_wp2
            go_roundw
            case rel => exact ⟨j + 1, by omega, by omega, by go_num, (endFrom_yes (k := j) (by rw [HL.out]; exact hjn) (by rw [← HX.out, ← HY.out]; exact HXY.out)).symm.trans HE.out, by first | exact (Quiet.refl _).more _ | exact ⟨_, rfl⟩⟩
            case measure => simp [intOf]; omega
          · have hbe : ((y.toNat : Int) == (x.toNat : Int)) = false := by simp; intro e; exact hxy (UInt16.toNat_inj.1 (by omega))
            have HXY := Lib.hid hxy; clear hxy
            go_wp2
            go_quiet (fail)

            have hej : endFrom l k (k + 1) = j := HE.out.symm.trans (endFrom_no (by intro h; exact HXY.out (by rw [HX.out, HY.out]; exact h.2)))
            have HEJ := Lib.hid hej; clear hej
            go_wp2_with (at_builtin; refine wpList_appendC rfl _ _ 62 rfl w.heap.size 56 (.agg #[.int .i64 0, .int .i64 0]) 2 16 Try.underlying62 runinfo rfl (by omega) u3 out.length (rcells out) rfl ((own_keep HO.out (bdn _ _)).alloc _) (some ⟨wr.heap.size, 0, none⟩) 1 1 (rcell (k, j)) rfl rfl ((MemC.new _ _ 56).cells) (rcell_one _) (by simp only [maxLen]; omega) (by omega) (by have := HB.out.size; simp; omega) ?_)
            intro v' w1 hown1 hgrow hnil hat
            have hb1 : Below w.heap.size w w1 := ((HB.out.trans ((bdn _ _).mono HB.out.size)).alloc (by have := HB.out.size; simp; omega) _).grown hgrow (by have := HB.out.size; simp; omega) (own_base HO.out)
            have ho1 : w1.ownsRow w.heap.size 56 2 v' (out ++ [(k, j)]).length (rcells (out ++ [(k, j)])) := by rw [List.length_append, rcells_snoc]; exact hown1
            have HO1 := Lib.hid ho1
            have HB1 := Lib.hid hb1
            clear hown1 hgrow hnil hat hb1 ho1
            go_wp2_with fail
            go_roundw
            case rel => exact ⟨j, out ++ [(k, j)], by omega, rfl, by simp; omega, HO1.out, by rw [List.append_assoc, ← HT.out, runsFrom_yes (show k < l.length by rw [HL.out]; exact hlt), HEJ.out]; rfl, HB1.out⟩
            case measure => simp [intOf]; omega
        · have i1 : ¬ (j : Int) < (n : Int) := by omega
          go_wp2
          go_quiet (fail)
          have hej : endFrom l k (k + 1) = j := HE.out.symm.trans (endFrom_no (by intro h; rw [HL.out] at h; omega))
          have HEJ := Lib.hid hej; clear hej
          go_wp2_with (at_builtin; refine wpList_appendC rfl _ _ 62 rfl w.heap.size 56 (.agg #[.int .i64 0, .int .i64 0]) 2 16 Try.underlying62 runinfo rfl (by omega) u3 out.length (rcells out) rfl ((own_keep HO.out (bdn _ _)).alloc _) (some ⟨wr.heap.size, 0, none⟩) 1 1 (rcell (k, j)) rfl rfl ((MemC.new _ _ 56).cells) (rcell_one _) (by simp only [maxLen]; omega) (by omega) (by have := HB.out.size; simp; omega) ?_)
          intro v' w1 hown1 hgrow hnil hat
          have hb1 : Below w.heap.size w w1 := ((HB.out.trans ((bdn _ _).mono HB.out.size)).alloc (by have := HB.out.size; simp; omega) _).grown hgrow (by have := HB.out.size; simp; omega) (own_base HO.out)
          have ho1 : w1.ownsRow w.heap.size 56 2 v' (out ++ [(k, j)]).length (rcells (out ++ [(k, j)])) := by rw [List.length_append, rcells_snoc]; exact hown1
          have HO1 := Lib.hid ho1
          have HB1 := Lib.hid hb1
          clear hown1 hgrow hnil hat hb1 ho1
          go_wp2_with fail
          go_roundw
          case rel => exact ⟨j, out ++ [(k, j)], by omega, rfl, by simp; omega, HO1.out, by rw [List.append_assoc, ← HT.out, runsFrom_yes (show k < l.length by rw [HL.out]; exact hlt), HEJ.out]; rfl, HB1.out⟩
          case measure => simp [intOf]; omega
    · obtain rfl : k = n := by omega
      have e : runsFrom l 0 = out := by rw [← HT.out, runsFrom_no (by rw [HL.out]; omega), List.append_nil]
      have HE := Lib.hid e; clear e
      go_wp2
      go_ret
      rw [HE.out]
      exact ⟨_, rfl, HO.out, HB.out⟩

end Go.Proofs.Ytlkmcjjdjbdihaa
