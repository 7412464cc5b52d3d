/-
  Entries in memory; cmp.Compare, cmp.Or, shelf.order.
-/
import Derived.Test.YtcljobkdihbflaaOcU
import Derived.Test.YtcljobkdihbflaaCells
import Derived.Test.YtcljobkdihbflaaShPlain
import Derived.Deep.RegionHeld3
import Derived.Deep.DrawnRows
namespace Go.Proofs.Ytcljobkdihbflaa
open Go.RowKit
set_option linter.unusedVariables false
attribute [local go_sem ↓] Go.wp_at_zero Go.wp_at_succ

/-- An entry's value, and its cells. -/
def eval (e : Ent) : Value := .agg #[.int .u64 (e.1.toNat : Int), .int .u32 (e.2.toNat : Int)]
def ecell (e : Ent) : List Value := [.int .u64 (e.1.toNat : Int), .int .u32 (e.2.toNat : Int)]
def ecells (l : List Ent) : List Value := l.flatMap ecell
theorem ecells_length (l : List Ent) : (ecells l).length = l.length * 2 := by
  induction l with
  | nil => rfl
  | cons x l ih => simp only [ecells, List.flatMap_cons, List.length_append, ecell, List.length_cons, List.length_nil] at *; omega
theorem ecells_append (l k : List Ent) : ecells (l ++ k) = ecells l ++ ecells k := by simp [ecells]
theorem ecells_cons (x : Ent) (l : List Ent) : ecells (x :: l) = ecell x ++ ecells l := rfl
theorem ecells_one (l : List Ent) : ∀ u ∈ ecells l, u.oneCell' = true := by
  intro u hu
  obtain ⟨x, _, hx⟩ := List.mem_flatMap.1 hu
  simp only [ecell, List.mem_cons, List.not_mem_nil, or_false] at hx
  rcases hx with rfl | rfl <;> rfl
theorem ecells_get : ∀ (l : List Ent) (k : Nat) (h : k < l.length), (ecells l)[k * 2]? = some (.int .u64 (l[k].1.toNat : Int)) ∧ (ecells l)[k * 2 + 1]? = some (.int .u32 (l[k].2.toNat : Int))
  | x :: l, 0, _ => ⟨rfl, rfl⟩
  | x :: l, k + 1, h => by
    have := ecells_get l k (by simpa using h)
    rw [ecells_cons, show (k + 1) * 2 = k * 2 + 2 by omega]
    exact this

/-- A slice that reads as the entries l. -/
def ReadsE (w : World) (A : Option Addr) (n : Nat) (l : List Ent) : Prop := l.length = n ∧ Cells w A (ecells l)
theorem ReadsE.keep {w w' : World} {A : Option Addr} {n : Nat} {l : List Ent} (h : ReadsE w A n l) (hb : Below w.heap.size w w') : ReadsE w' A n l := ⟨h.1, h.2.keep hb⟩
theorem ReadsE.nil (w : World) (A : Option Addr) : ReadsE w A 0 [] := ⟨rfl, Cells.nil _ _⟩
theorem ReadsE.get {w : World} {A : Option Addr} {n k : Nat} {l : List Ent} (h : ReadsE w A n l) (hk : k < l.length) :
    ∃ b o, A = some ⟨b, o, none⟩ ∧ b < w.heap.size ∧ w.cell? ⟨b, o + k * 2, none⟩ = some (.int .u64 (l[k].1.toNat : Int)) ∧ w.cell? ⟨b, o + k * 2 + 1, none⟩ = some (.int .u32 (l[k].2.toNat : Int)) := by
  have hl := ecells_length l
  obtain ⟨b, o, e, hc⟩ := h.2 (by omega)
  obtain ⟨h1, h2⟩ := ecells_get l k hk
  refine ⟨b, o, e, hc.lt, ?_, ?_⟩
  · rw [hc.cell (k * 2) (by omega), ← List.getElem?_eq_getElem, h1]
  · rw [Nat.add_assoc, hc.cell (k * 2 + 1) (by omega), ← List.getElem?_eq_getElem, h2]
theorem ReadsE.getD {w : World} {A : Option Addr} {n k : Nat} {l : List Ent} (h : ReadsE w A n l) (hk : k < n) :
    ∃ b o, A = some ⟨b, o, none⟩ ∧ b < w.heap.size ∧ w.cell? ⟨b, o + k * 2, none⟩ = some (.int .u64 ((l.getD k e0).1.toNat : Int)) ∧ w.cell? ⟨b, o + k * 2 + 1, none⟩ = some (.int .u32 ((l.getD k e0).2.toNat : Int)) := by
  have hl : k < l.length := by rw [h.1]; exact hk
  obtain ⟨b, o, e, hb, c0, c1⟩ := h.get hl
  have e : l.getD k e0 = l[k] := by simp [List.getD_eq_getElem?_getD, List.getElem?_eq_getElem hl]
  rw [e]
  exact ⟨b, o, by assumption, hb, c0, c1⟩
theorem ReadsE.drewN {w : World} {A : Option Addr} {n : Nat} {l : List Ent} (h : ReadsE w A n l) (k : Nat) : ReadsE (w.drewN k) A n l := ⟨h.1, h.2.drewN k⟩

theorem bcell {W w1 : World} (hb : Below W.heap.size W w1) : (∀ b o, b < W.heap.size → w1.cell? ⟨b, o, none⟩ = W.cell? ⟨b, o, none⟩) ∧ (∀ b o, b < W.heap.size → w1.frozen? ⟨b, o, none⟩ = W.frozen? ⟨b, o, none⟩) :=
  ⟨fun b o h => hb.cell (p := ⟨b, o, none⟩) h, fun b o h => hb.frozen (p := ⟨b, o, none⟩) h⟩

def cmpI (a b : Int) : Int := if a < b then -1 else if b < a then 1 else 0

theorem cmp64_any (a b : Int) (w : World) : Calls Try.prog 34 #[.int .u64 a, .int .u64 b] w fun e w' => e = .returned (.int .i64 (cmpI a b)) ∧ w = w' := by
  unfold cmpI
  rcases Int.lt_trichotomy a b with h | h | h
  · rw [if_pos h]
    go_enter Try.func34, Try.ntmps34
    go_wp2
    go_ret
    exact ⟨rfl, rfl⟩
  · subst h
    rw [if_neg (by omega), if_neg (by omega)]
    go_enter Try.func34, Try.ntmps34
    go_wp2
    go_ret
    exact ⟨rfl, rfl⟩
  · have h1 : ¬ a < b := by omega
    rw [if_neg h1, if_pos h]
    go_enter Try.func34, Try.ntmps34
    go_wp2
    go_ret
    exact ⟨rfl, rfl⟩

theorem cmp32_any (a b : Int) (w : World) : Calls Try.prog 35 #[.int .u32 a, .int .u32 b] w fun e w' => e = .returned (.int .i64 (cmpI a b)) ∧ w = w' := by
  unfold cmpI
  rcases Int.lt_trichotomy a b with h | h | h
  · rw [if_pos h]
    go_enter Try.func35, Try.ntmps35
    go_wp2
    go_ret
    exact ⟨rfl, rfl⟩
  · subst h
    rw [if_neg (by omega), if_neg (by omega)]
    go_enter Try.func35, Try.ntmps35
    go_wp2
    go_ret
    exact ⟨rfl, rfl⟩
  · have h1 : ¬ a < b := by omega
    rw [if_neg h1, if_pos h]
    go_enter Try.func35, Try.ntmps35
    go_wp2
    go_ret
    exact ⟨rfl, rfl⟩

def orI (x y : Int) : Int := if x = 0 then y else x

theorem or_two (g : Nat) (x y : Int) (w : World) (h0 : w.cell? ⟨g, 0, none⟩ = some (.int .i64 x)) (h1 : w.cell? ⟨g, 1, none⟩ = some (.int .i64 y)) :
    Calls Try.prog 33 #[.slice (some ⟨g, 0, none⟩) 2 2] w fun e w' => e = .returned (.int .i64 (orI x y)) ∧ w = w' := by
  unfold orI
  by_cases hx : x = 0
  · subst hx
    rw [if_pos rfl]
    by_cases hy : y = 0
    · subst hy
      go_enter Try.func33, Try.ntmps33
      go_wp2
      go_loop [8] (fun i => i = .int .i64 0 ∨ i = .int .i64 1 ∨ i = .int .i64 2) (fun i => (2 - intOf i).toNat)
      case atStart => exact .inl rfl
      case round =>
        rcases hrel with rfl | rfl | rfl
        · go_wp2
          go_round
          case rel => exact .inr (.inl rfl)
          case measure => simp [intOf]
        · go_wp2
          go_round
          case rel => exact .inr (.inr rfl)
          case measure => simp [intOf]
        · go_wp2
          go_ret
          exact ⟨rfl, rfl⟩
    · have hy1 : (y != 0) = true := by simpa using hy
      go_enter Try.func33, Try.ntmps33
      go_wp2
      go_loop [8] (fun i => i = .int .i64 0 ∨ i = .int .i64 1) (fun i => (2 - intOf i).toNat)
      case atStart => exact .inl rfl
      case round =>
        rcases hrel with rfl | rfl
        · go_wp2
          go_round
          case rel => exact .inr rfl
          case measure => simp [intOf]
        · go_wp2
          go_ret
          exact ⟨rfl, rfl⟩
  · have hx1 : (x != 0) = true := by simpa using hx
    rw [if_neg hx]
    go_enter Try.func33, Try.ntmps33
    go_wp2
    go_loop [8] (fun i => i = .int .i64 0) (fun _ => 0)
    case atStart => exact rfl
    case round =>
      subst hrel
      go_wp2
      go_ret
      exact ⟨rfl, rfl⟩

theorem new_cell (w : World) (xs : Array Value) (t : TypeId) (n : Nat) (hn : w.heap.size = n) (j : Nat) (v : Value) (hv : xs[j]? = some v) : (w.alloc (.cells xs t)).drew.cell? ⟨n, j, none⟩ = some v := by
  subst hn
  show (w.alloc _).cell? _ = _
  rw [cell_of_row _ _ _ xs t (0, 0) (heap_alloc_new w _)]
  exact hv

def ordI (a b : Ent) : Int := orI (cmpI (a.1.toNat : Int) (b.1.toNat : Int)) (cmpI (a.2.toNat : Int) (b.2.toNat : Int))
theorem ordI_iff (a b : Ent) : (0 ≤ ordI a b) ↔ eltB a b = false := by
  unfold ordI orI cmpI eltB
  rw [decide_eq_false_iff_not]
  by_cases h1 : (a.1.toNat : Int) < (b.1.toNat : Int)
  · rw [if_pos h1]; simp; omega
  · rw [if_neg h1]
    by_cases h2 : (b.1.toNat : Int) < (a.1.toNat : Int)
    · rw [if_pos h2]; simp; omega
    · rw [if_neg h2]
      by_cases h3 : (a.2.toNat : Int) < (b.2.toNat : Int)
      · rw [if_pos h3]; simp; omega
      · rw [if_neg h3]
        by_cases h4 : (b.2.toNat : Int) < (a.2.toNat : Int)
        · rw [if_pos h4]; simp; omega
        · rw [if_neg h4]; simp; omega

set_option maxHeartbeats 1000000 in
theorem order_any (a b : Ent) (w : World) : Calls Try.prog 18 #[eval a, eval b] w fun e w' => e = .returned (.int .i64 (ordI a b)) ∧ Below w.heap.size w w' := by
  unfold eval ordI
  generalize (a.1.toNat : Int) = x1
  generalize (a.2.toNat : Int) = x2
  generalize (b.1.toNat : Int) = y1
  generalize (b.2.toNat : Int) = y2
  go_enter Try.func18, Try.ntmps18
  go_wp2_with fail
  go_region_held3 (fun w' => w'.cell? ⟨w.heap.size, 0, none⟩ = some (.int .u64 x1) ∧ w'.cell? ⟨w.heap.size, 1, none⟩ = some (.int .u32 x2) ∧ w'.cell? ⟨w.heap.size + 1, 0, none⟩ = some (.int .u64 y1) ∧ w'.cell? ⟨w.heap.size + 1, 1, none⟩ = some (.int .u32 y2))
    (go_keep)
    ((first
      | (go_at_call 34; refine (cmp64_any _ _ _).mono ?_; rintro e w' ⟨rfl, rfl⟩)
      | (go_at_call 35; refine (cmp32_any _ _ _).mono ?_; rintro e w' ⟨rfl, rfl⟩)
      | (go_at_call 33; refine (or_two (w.heap.size + 2) (cmpI x1 y1) (cmpI x2 y2) _ ?_ ?_).mono ?_; (exact new_cell _ _ _ _ (by simp) 0 _ rfl); (exact new_cell _ _ _ _ (by simp) 1 _ rfl); rintro e w' ⟨rfl, rfl⟩)))
  go_wp2_with fail
  go_ret
  exact ⟨rfl, ((((Below.refl _ w).alloc (Nat.le_refl _) _).alloc (by simp) _).alloc (by simp; omega) _).drew⟩

end Go.Proofs.Ytcljobkdihbflaa
