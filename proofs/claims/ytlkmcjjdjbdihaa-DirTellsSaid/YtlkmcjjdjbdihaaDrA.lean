/-
  Words and numbers in memory; catchmentlow.EqualWords, EqualPlaces; catchmentlaw17.same, of; dir.block, run.whole, alike.
-/
import Derived.Test.YtlkmcjjdjbdihaaOwn
import Derived.Test.YtlkmcjjdjbdihaaChecked
import Derived.Deep.QuietTactic
import Derived.BigQuiet
import Derived.RegionTactic
import Derived.OpenShut
namespace Go.Proofs.Ytlkmcjjdjbdihaa
open Go.RowKit
set_option linter.unusedVariables false

theorem bdn (w : World) (k : Nat) : Below w.heap.size w (w.drewN k) := ⟨rfl, rfl, rfl, Nat.le_refl _, fun _ _ => rfl⟩
/-- Words as cells. -/
def wcells (l : List UInt16) : List Value := l.map fun x => .int .u16 (x.toNat : Int)
theorem wcells_length (l : List UInt16) : (wcells l).length = l.length := by simp [wcells]
theorem wcells_append (l k : List UInt16) : wcells (l ++ k) = wcells l ++ wcells k := by simp [wcells]
theorem wcells_one (l : List UInt16) : ∀ u ∈ wcells l, u.oneCell' = true := by
  intro u hu
  obtain ⟨_, _, rfl⟩ := List.mem_map.1 hu
  rfl
theorem wcells_get {l : List UInt16} {j : Nat} (h : j < l.length) : (wcells l)[j]'(by rw [wcells_length]; exact h) = .int .u16 (l[j].toNat : Int) := by simp [wcells]

/-- A slice that reads as the words l. -/
def ReadsW (w : World) (A : Option Addr) (n : Nat) (l : List UInt16) : Prop := l.length = n ∧ Cells w A (wcells l)
theorem ReadsW.keep {w w' : World} {A : Option Addr} {n : Nat} {l : List UInt16} (h : ReadsW w A n l) (hb : Below w.heap.size w w') : ReadsW w' A n l := ⟨h.1, h.2.keep hb⟩
theorem ReadsW.nil (w : World) (A : Option Addr) : ReadsW w A 0 [] := ⟨rfl, Cells.nil _ _⟩
theorem ReadsW.get {w : World} {A : Option Addr} {n k : Nat} {l : List UInt16} (h : ReadsW w A n l) (hk : k < l.length) : ∃ b o, A = some ⟨b, o, none⟩ ∧ b < w.heap.size ∧ w.cell? ⟨b, o + k, none⟩ = some (.int .u16 (l[k].toNat : Int)) := by
  obtain ⟨b, o, e, hc⟩ := h.2 (by rw [wcells_length]; omega)
  refine ⟨b, o, e, hc.lt, ?_⟩
  rw [hc.cell k (by rw [wcells_length]; exact hk), wcells_get hk]


/-- Numbers as cells. -/
def icells (l : List Int) : List Value := l.map fun x => .int .i64 x
theorem icells_length (l : List Int) : (icells l).length = l.length := by simp [icells]
theorem icells_append (l k : List Int) : icells (l ++ k) = icells l ++ icells k := by simp [icells]
theorem icells_one (l : List Int) : ∀ u ∈ icells l, u.oneCell' = true := by
  intro u hu
  obtain ⟨_, _, rfl⟩ := List.mem_map.1 hu
  rfl
theorem icells_get {l : List Int} {j : Nat} (h : j < l.length) : (icells l)[j]'(by rw [icells_length]; exact h) = .int .i64 l[j] := by simp [icells]

/-- A slice that reads as the numbers l. -/
def ReadsI (w : World) (A : Option Addr) (n : Nat) (l : List Int) : Prop := l.length = n ∧ Cells w A (icells l)
theorem ReadsI.keep {w w' : World} {A : Option Addr} {n : Nat} {l : List Int} (h : ReadsI w A n l) (hb : Below w.heap.size w w') : ReadsI w' A n l := ⟨h.1, h.2.keep hb⟩
theorem ReadsI.nil (w : World) (A : Option Addr) : ReadsI w A 0 [] := ⟨rfl, Cells.nil _ _⟩
theorem ReadsI.get {w : World} {A : Option Addr} {n k : Nat} {l : List Int} (h : ReadsI w A n l) (hk : k < l.length) : ∃ b o, A = some ⟨b, o, none⟩ ∧ b < w.heap.size ∧ w.cell? ⟨b, o + k, none⟩ = some (.int .i64 l[k]) := by
  obtain ⟨b, o, e, hc⟩ := h.2 (by rw [icells_length]; omega)
  refine ⟨b, o, e, hc.lt, ?_⟩
  rw [hc.cell k (by rw [icells_length]; exact hk), icells_get hk]

def sameW (a b : List UInt16) : Bool := a == b
theorem sameW_iff {a b : List UInt16} : sameW a b = true ↔ a = b := by unfold sameW; simp
def sameI (a b : List Int) : Bool := a == b
theorem sameI_iff {a b : List Int} : sameI a b = true ↔ a = b := by unfold sameI; simp

/-- Only draws. -/
def Quiet (w w' : World) : Prop := ∃ q, w' = w.drewN q
theorem Quiet.refl (w : World) : Quiet w w := ⟨0, rfl⟩
theorem Quiet.more {w w' : World} (h : Quiet w w') (k : Nat) : Quiet w (w'.drewN k) := by
  obtain ⟨q, rfl⟩ := h
  exact ⟨q + k, by simp [World.drewN, Nat.add_assoc]⟩
theorem Quiet.below {w w' : World} (h : Quiet w w') : Below w.heap.size w w' := by
  obtain ⟨q, rfl⟩ := h
  exact bdn _ _

set_option maxHeartbeats 1000000 in
theorem eqwords_len (A B : Option Addr) (n m c d : Nat) (w : World) (hn : n ≤ maxLen) (hm : m ≤ maxLen) (h : n ≠ m) :
    Calls Try.prog 29 #[.slice A n c, .slice B m d] w fun e w' => e = .returned (.bool false) ∧ Quiet w w' := by
  have hq : ((n : Int) != (m : Int)) = true := by simp; omega
  clear h
  go_enter Try.func29, Try.ntmps29
  go_wp2
  go_ret
  exact ⟨rfl, Quiet.refl _⟩

set_option maxHeartbeats 1000000 in
theorem eqwords_any (A B : Option Addr) (n m c d : Nat) (l k : List UInt16) (w : World) (h : ReadsW w A n l) (g : ReadsW w B m k) (hn : n ≤ maxLen) (hm : m ≤ maxLen) :
    Calls Try.prog 29 #[.slice A n c, .slice B m d] w fun e w' => e = .returned (.bool (sameW l k)) ∧ Quiet w w' := by
  by_cases hnm : n = m
  · subst hnm
    unfold maxLen at hn
    have hl := Lib.hid h.1
    have kl := Lib.hid g.1
    have HL := Lib.hid h; clear h
    have HK := Lib.hid g; clear g hm
    go_enter Try.func29, Try.ntmps29
    go_wp2
    go_loopw [5] (fun i wr => ∃ j : Nat, j ≤ n ∧ i = .int .i64 j ∧ Quiet w wr ∧ l.drop j = k.drop j) (fun i _ => (intOf i).toNat)
    case atStart => exact ⟨n, Nat.le_refl _, rfl, Quiet.refl _, by rw [List.drop_of_length_le (by have := hl.out; omega), List.drop_of_length_le (by have := kl.out; omega)]⟩
    case round =>
      obtain ⟨j, hj, rfl, hq, hd⟩ := hrel
      have HQ := Lib.hid hq
      have HD := Lib.hid hd; clear hd
      by_cases h0 : 0 < j
      · obtain ⟨i, rfl⟩ : ∃ i, j = i + 1 := ⟨j - 1, by omega⟩
        obtain ⟨b, o, rfl, hbl, hc⟩ := HL.out.get (k := i) (by have := hl.out; omega)
        obtain ⟨b2, o2, rfl, hbl2, hc2⟩ := HK.out.get (k := i) (by have := kl.out; omega)
        obtain ⟨x, hx⟩ : ∃ x, x = l[i]'(by have := hl.out; omega) := ⟨_, rfl⟩
        obtain ⟨y, hy⟩ : ∃ y, y = k[i]'(by have := kl.out; omega) := ⟨_, rfl⟩
        rw [← hx] at hc
        rw [← hy] at hc2
        have HX := Lib.hid hx; clear hx
        have HY := Lib.hid hy; clear hy
        have ed : ((i + 1 : Nat) : Int) - 1 = (i : Int) := by omega
        have i0 : (0 : Int) ≤ (i : Int) := by omega
        have i1 : (i : Int) < (n : Int) := by omega
        obtain ⟨q, rfl⟩ := hq
        by_cases hxy : x = y
        · have hb : ((x.toNat : Int) != (y.toNat : Int)) = false := by rw [hxy]; simp
          have HXY := Lib.hid hxy; clear hxy
          go_wp2
          go_quiet (fail)
          go_wp2
          go_roundw
          case rel =>
            refine ⟨i, by omega, vint (by omega), by first | exact HQ.out.more _ | exact ⟨_, rfl⟩, ?_⟩
            have e1 : l.drop i = l[i]'(by have := hl.out; omega) :: l.drop (i + 1) := (List.getElem_cons_drop ..).symm
            have e2 : k.drop i = k[i]'(by have := kl.out; omega) :: k.drop (i + 1) := (List.getElem_cons_drop ..).symm
            rw [e1, e2, ← HX.out, ← HY.out, HXY.out, HD.out]
          case measure => simp [intOf]
        · have hb : ((x.toNat : Int) != (y.toNat : Int)) = true := by
            simp; intro e; exact hxy (UInt16.toNat_inj.1 (by omega))
          have HXY := Lib.hid hxy; clear hxy
          go_wp2
          go_quiet (fail)
          go_wp2
          go_ret
          refine ⟨?_, by first | exact HQ.out.more _ | exact ⟨_, rfl⟩⟩
          have e : sameW l k = false := by
            cases hs : sameW l k
            · rfl
            · exfalso
              have := sameW_iff.1 hs
              subst this
              exact HXY.out (by rw [HX.out, HY.out])
          rw [e]
          rfl
      · obtain rfl : j = 0 := by omega
        have e : sameW l k = true := sameW_iff.2 (by simpa using HD.out)
        go_wp2
        go_ret
        rw [e]
        exact ⟨rfl, HQ.out⟩
  · have hl := h.1
    have kl := g.1
    have e : sameW l k = false := by
      cases hs : sameW l k
      · rfl
      · have := sameW_iff.1 hs
        subst this
        exact absurd (hl.symm.trans kl) hnm
    rw [e]
    exact eqwords_len A B n m c d w hn hm hnm


set_option maxHeartbeats 1000000 in
theorem eqplaces_len (A B : Option Addr) (n m c d : Nat) (w : World) (hn : n ≤ maxLen) (hm : m ≤ maxLen) (h : n ≠ m) :
    Calls Try.prog 19 #[.slice A n c, .slice B m d] w fun e w' => e = .returned (.bool false) ∧ Quiet w w' := by
  have hq : ((n : Int) != (m : Int)) = true := by simp; omega
  clear h
  go_enter Try.func19, Try.ntmps19
  go_wp2
  go_ret
  exact ⟨rfl, Quiet.refl _⟩

set_option maxHeartbeats 1000000 in
theorem eqplaces_any (A B : Option Addr) (n m c d : Nat) (l k : List Int) (w : World) (h : ReadsI w A n l) (g : ReadsI w B m k) (hn : n ≤ maxLen) (hm : m ≤ maxLen) :
    Calls Try.prog 19 #[.slice A n c, .slice B m d] w fun e w' => e = .returned (.bool (sameI l k)) ∧ Quiet w w' := by
  by_cases hnm : n = m
  · subst hnm
    unfold maxLen at hn
    have hl := Lib.hid h.1
    have kl := Lib.hid g.1
    have HL := Lib.hid h; clear h
    have HK := Lib.hid g; clear g hm
    go_enter Try.func19, Try.ntmps19
    go_wp2
    go_loopw [5] (fun i wr => ∃ j : Nat, j ≤ n ∧ i = .int .i64 j ∧ Quiet w wr ∧ l.drop j = k.drop j) (fun i _ => (intOf i).toNat)
    case atStart => exact ⟨n, Nat.le_refl _, rfl, Quiet.refl _, by rw [List.drop_of_length_le (by have := hl.out; omega), List.drop_of_length_le (by have := kl.out; omega)]⟩
    case round =>
      obtain ⟨j, hj, rfl, hq, hd⟩ := hrel
      have HQ := Lib.hid hq
      have HD := Lib.hid hd; clear hd
      by_cases h0 : 0 < j
      · obtain ⟨i, rfl⟩ : ∃ i, j = i + 1 := ⟨j - 1, by omega⟩
        obtain ⟨b, o, rfl, hbl, hc⟩ := HL.out.get (k := i) (by have := hl.out; omega)
        obtain ⟨b2, o2, rfl, hbl2, hc2⟩ := HK.out.get (k := i) (by have := kl.out; omega)
        obtain ⟨x, hx⟩ : ∃ x, x = l[i]'(by have := hl.out; omega) := ⟨_, rfl⟩
        obtain ⟨y, hy⟩ : ∃ y, y = k[i]'(by have := kl.out; omega) := ⟨_, rfl⟩
        rw [← hx] at hc
        rw [← hy] at hc2
        have HX := Lib.hid hx; clear hx
        have HY := Lib.hid hy; clear hy
        have ed : ((i + 1 : Nat) : Int) - 1 = (i : Int) := by omega
        have i0 : (0 : Int) ≤ (i : Int) := by omega
        have i1 : (i : Int) < (n : Int) := by omega
        obtain ⟨q, rfl⟩ := hq
        by_cases hxy : x = y
        · have hb : (x != y) = false := by rw [hxy]; simp
          have HXY := Lib.hid hxy; clear hxy
          go_wp2
          go_quiet (fail)
          go_wp2
          go_roundw
          case rel =>
            refine ⟨i, by omega, vint (by omega), by first | exact HQ.out.more _ | exact ⟨_, rfl⟩, ?_⟩
            have e1 : l.drop i = l[i]'(by have := hl.out; omega) :: l.drop (i + 1) := (List.getElem_cons_drop ..).symm
            have e2 : k.drop i = k[i]'(by have := kl.out; omega) :: k.drop (i + 1) := (List.getElem_cons_drop ..).symm
            rw [e1, e2, ← HX.out, ← HY.out, HXY.out, HD.out]
          case measure => simp [intOf]
        · have hb : (x != y) = true := by
            simpa using hxy
          have HXY := Lib.hid hxy; clear hxy
          go_wp2
          go_quiet (fail)
          go_wp2
          go_ret
          refine ⟨?_, by first | exact HQ.out.more _ | exact ⟨_, rfl⟩⟩
          have e : sameI l k = false := by
            cases hs : sameI l k
            · rfl
            · exfalso
              have := sameI_iff.1 hs
              subst this
              exact HXY.out (by rw [HX.out, HY.out])
          rw [e]
          rfl
      · obtain rfl : j = 0 := by omega
        have e : sameI l k = true := sameI_iff.2 (by simpa using HD.out)
        go_wp2
        go_ret
        rw [e]
        exact ⟨rfl, HQ.out⟩
  · have hl := h.1
    have kl := g.1
    have e : sameI l k = false := by
      cases hs : sameI l k
      · rfl
      · have := sameI_iff.1 hs
        subst this
        exact absurd (hl.symm.trans kl) hnm
    rw [e]
    exact eqplaces_len A B n m c d w hn hm hnm


theorem u16info : (Try.prog.info? 26).map (fun i => (i.zero, i.size, i.bytes)) = some (some (.int .u16 0), 1, 2) := by kernel_rfl
theorem intinfo : (Try.prog.info? 3).map (fun i => (i.zero, i.size, i.bytes)) = some (some (.int .i64 0), 1, 8) := by kernel_rfl
theorem runinfo : (Try.prog.info? 56).map (fun i => (i.zero, i.size, i.bytes)) = some (some (.agg #[.int .i64 0, .int .i64 0]), 2, 16) := by kernel_rfl

/-- A slice that the call owns reads as its words. -/
theorem own_readsW {w : World} {base n : Nat} {e : TypeId} {v : Value} {l : List UInt16} (h : w.ownsRow base e 1 v n (wcells l)) : ∃ A c, v = .slice A n c ∧ ReadsW w A n l ∧ n ≤ c ∧ c ≤ maxLen := by
  have hl : l.length = n := by have := h.1; rw [wcells_length] at this; omega
  rcases h.2 with ⟨rfl, h0⟩ | ⟨g, cap, cur, rfl, hg, hh, hn, hm, _⟩
  · have h0 : n = 0 := h0
    have : l = [] := List.eq_nil_of_length_eq_zero (by omega)
    subst this
    subst h0
    exact ⟨none, 0, rfl, ReadsW.nil _ _, Nat.le_refl _, by simp [maxLen]⟩
  · exact ⟨_, cap, rfl, ⟨hl, (MemC.of_ownC h).1.cells⟩, hn, hm⟩
theorem own_readsI {w : World} {base n : Nat} {e : TypeId} {v : Value} {l : List Int} (h : w.ownsRow base e 1 v n (icells l)) : ∃ A c, v = .slice A n c ∧ ReadsI w A n l ∧ n ≤ c ∧ c ≤ maxLen := by
  have hl : l.length = n := by have := h.1; rw [icells_length] at this; omega
  rcases h.2 with ⟨rfl, h0⟩ | ⟨g, cap, cur, rfl, hg, hh, hn, hm, _⟩
  · have h0 : n = 0 := h0
    have : l = [] := List.eq_nil_of_length_eq_zero (by omega)
    subst this
    subst h0
    exact ⟨none, 0, rfl, ReadsI.nil _ _, Nat.le_refl _, by simp [maxLen]⟩
  · exact ⟨_, cap, rfl, ⟨hl, (MemC.of_ownC h).1.cells⟩, hn, hm⟩

end Go.Proofs.Ytlkmcjjdjbdihaa
