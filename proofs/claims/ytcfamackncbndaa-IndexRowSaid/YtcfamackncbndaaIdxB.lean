/-
  catchmentlow.EqualWords; index.Place, Pages and the document's; catchmentlaw05.other; catchmentref05.Encode.
-/
import Derived.Test.YtcfamackncbndaaIdxA
import Derived.Deep.AppendLies
namespace Go.Proofs.Ytcfamackncbndaa
open Go.RowKit
set_option linter.unusedVariables false

def sameW (a b : List UInt16) : Bool := a == b
theorem sameW_iff {a b : List UInt16} : sameW a b = true ↔ a = b := by unfold sameW; simp

/-- Only draws. -/
def Quiet (w w' : World) : Prop := ∃ q, w' = w.drewN q
theorem Quiet.refl (w : World) : Quiet w w := ⟨0, rfl⟩
theorem Quiet.more {w w' : World} (h : Quiet w w') (k : Nat) : Quiet w (w'.drewN k) := by
  obtain ⟨q, rfl⟩ := h
  exact ⟨q + k, by simp [World.drewN, Nat.add_assoc]⟩
theorem Quiet.below {w w' : World} (h : Quiet w w') : Below w.heap.size w w' := by
  obtain ⟨q, rfl⟩ := h
  exact bdn _ _

set_option maxHeartbeats 1000000 in
theorem eqwords_len (A B : Option Addr) (n m c d : Nat) (w : World) (hn : n ≤ maxLen) (hm : m ≤ maxLen) (h : n ≠ m) :
    Calls Try.prog 16 #[.slice A n c, .slice B m d] w fun e w' => e = .returned (.bool false) ∧ Quiet w w' := by
  have hq : ((n : Int) != (m : Int)) = true := by simp; omega
  clear h
  go_enter Try.func16, Try.ntmps16
  go_wp2
  go_ret
  exact ⟨rfl, Quiet.refl _⟩

set_option maxHeartbeats 1000000 in
theorem eqwords_any (A B : Option Addr) (n m c d : Nat) (l k : List UInt16) (w : World) (h : ReadsW w A n l) (g : ReadsW w B m k) (hn : n ≤ maxLen) (hm : m ≤ maxLen) :
    Calls Try.prog 16 #[.slice A n c, .slice B m d] w fun e w' => e = .returned (.bool (sameW l k)) ∧ Quiet w w' := by
  by_cases hnm : n = m
  · subst hnm
    unfold maxLen at hn
    have hl := Lib.hid h.1
    have kl := Lib.hid g.1
    have HL := Lib.hid h; clear h
    have HK := Lib.hid g; clear g hm
    go_enter Try.func16, Try.ntmps16
    go_wp2
    go_loopw [5] (fun i wr => ∃ j : Nat, j ≤ n ∧ i = .int .i64 j ∧ Quiet w wr ∧ l.drop j = k.drop j) (fun i _ => (intOf i).toNat)
    case atStart => exact ⟨n, Nat.le_refl _, rfl, Quiet.refl _, by rw [List.drop_of_length_le (by have := hl.out; omega), List.drop_of_length_le (by have := kl.out; omega)]⟩
    case round =>
      obtain ⟨j, hj, rfl, hq, hd⟩ := hrel
      have HQ := Lib.hid hq
      have HD := Lib.hid hd; clear hd
      by_cases h0 : 0 < j
      · obtain ⟨i, rfl⟩ : ∃ i, j = i + 1 := ⟨j - 1, by omega⟩
        obtain ⟨b, o, rfl, hbl, hc⟩ := HL.out.get (k := i) (by have := hl.out; omega)
        obtain ⟨b2, o2, rfl, hbl2, hc2⟩ := HK.out.get (k := i) (by have := kl.out; omega)
        obtain ⟨x, hx⟩ : ∃ x, x = l[i]'(by have := hl.out; omega) := ⟨_, rfl⟩
        obtain ⟨y, hy⟩ : ∃ y, y = k[i]'(by have := kl.out; omega) := ⟨_, rfl⟩
        rw [← hx] at hc
        rw [← hy] at hc2
        have HX := Lib.hid hx; clear hx
        have HY := Lib.hid hy; clear hy
        have ed : ((i + 1 : Nat) : Int) - 1 = (i : Int) := by omega
        have i0 : (0 : Int) ≤ (i : Int) := by omega
        have i1 : (i : Int) < (n : Int) := by omega
        obtain ⟨q, rfl⟩ := hq
        by_cases hxy : x = y
        · have hb : ((x.toNat : Int) != (y.toNat : Int)) = false := by rw [hxy]; simp
          have HXY := Lib.hid hxy; clear hxy
          go_wp2
          go_quiet (fail)
          go_wp2
          go_roundw
          case rel =>
            refine ⟨i, by omega, vint (by omega), by first | exact HQ.out.more _ | exact ⟨_, rfl⟩, ?_⟩
            have e1 : l.drop i = l[i]'(by have := hl.out; omega) :: l.drop (i + 1) := (List.getElem_cons_drop ..).symm
            have e2 : k.drop i = k[i]'(by have := kl.out; omega) :: k.drop (i + 1) := (List.getElem_cons_drop ..).symm
            rw [e1, e2, ← HX.out, ← HY.out, HXY.out, HD.out]
          case measure => simp [intOf]
        · have hb : ((x.toNat : Int) != (y.toNat : Int)) = true := by
            simp; intro e; exact hxy (UInt16.toNat_inj.1 (by omega))
          have HXY := Lib.hid hxy; clear hxy
          go_wp2
          go_quiet (fail)
          go_wp2
          go_ret
          refine ⟨?_, by first | exact HQ.out.more _ | exact ⟨_, rfl⟩⟩
          have e : sameW l k = false := by
            cases hs : sameW l k
            · rfl
            · exfalso
              have := sameW_iff.1 hs
              subst this
              exact HXY.out (by rw [HX.out, HY.out])
          rw [e]
          rfl
      · obtain rfl : j = 0 := by omega
        have e : sameW l k = true := sameW_iff.2 (by simpa using HD.out)
        go_wp2
        go_ret
        rw [e]
        exact ⟨rfl, HQ.out⟩
  · have hl := h.1
    have kl := g.1
    have e : sameW l k = false := by
      cases hs : sameW l k
      · rfl
      · have := sameW_iff.1 hs
        subst this
        exact absurd (hl.symm.trans kl) hnm
    rw [e]
    exact eqwords_len A B n m c d w hn hm hnm

def pagesOf (n : Int) : Int := if n < 1 then 0 else (n - 1) / 61 + 1
def placeP (i : Int) : Int := if i < 0 then -1 else i / 61
def placeI (i : Int) : Int := if i < 0 then -1 else i % 61

theorem place_any (i : Int) (w : World) (h1 : -9223372036854775808 ≤ i) (h2 : i ≤ 9223372036854775807) :
    Calls Try.prog 17 #[.int .i64 i] w fun e w' => e = .returned (.tuple #[.int .i64 (placeP i), .int .i64 (placeI i)]) ∧ w = w' := by
  unfold placeP placeI
  by_cases h : i < 0
  · rw [if_pos h, if_pos h]
    go_enter Try.func17, Try.ntmps17
    go_wp2
    go_ret2
    exact ⟨rfl, rfl⟩
  · rw [if_neg h, if_neg h]
    go_enter Try.func17, Try.ntmps17
    go_wp2
    go_ret2
    exact ⟨rfl, rfl⟩

theorem pages_any (n : Int) (w : World) (h1 : -9223372036854775808 ≤ n) (h2 : n ≤ 9223372036854775807) :
    Calls Try.prog 19 #[.int .i64 n] w fun e w' => e = .returned (.int .i64 (pagesOf n)) ∧ w = w' := by
  unfold pagesOf
  by_cases h : n < 1
  · rw [if_pos h]
    go_enter Try.func19, Try.ntmps19
    go_wp2
    go_ret
    exact ⟨rfl, rfl⟩
  · rw [if_neg h]
    go_enter Try.func19, Try.ntmps19
    go_wp2
    go_ret
    exact ⟨rfl, rfl⟩


set_option maxHeartbeats 1000000 in
theorem rpages_any (n : Int) (w : World) (h1 : -9223372036854775808 ≤ n) (h2 : n ≤ 9223372036854775807) :
    Calls Try.prog 20 #[.int .i64 n] w fun e w' => e = .returned (.int .i64 (pagesOf n)) ∧ w = w' := by
  unfold pagesOf
  by_cases h : n < 1
  · rw [if_pos h]
    go_enter Try.func20, Try.ntmps20
    go_wp2
    go_loop [3, 4] (fun k i => k = .int .i64 0 ∧ i = .int .i64 n) (fun _ _ => 0)
    case atStart => exact ⟨rfl, rfl⟩
    case round =>
      obtain ⟨rfl, rfl⟩ := hrel
      go_wp2
      go_ret
      exact ⟨rfl, rfl⟩
  · rw [if_neg h]
    go_enter Try.func20, Try.ntmps20
    go_wp2
    go_loop [3, 4] (fun k i => ∃ (j : Nat) (r : Int), k = .int .i64 (j : Int) ∧ i = .int .i64 r ∧ r = n - 61 * (j : Int) ∧ -61 < r) (fun _ i => (intOf i).toNat)
    case atStart => exact ⟨0, n, rfl, rfl, by omega, by omega⟩
    case round =>
      obtain ⟨j, r, rfl, rfl, hr, hlo⟩ := hrel
      have HR := Lib.hid hr
      have hj : (j : Int) ≤ n := by omega
      have hrn : r ≤ n := by omega
      clear hr
      by_cases h0 : 0 < r
      · have hj1 : (j : Int) + 1 ≤ 9223372036854775807 := by have := HR.out; omega
        go_wp2
        go_round
        case rel => exact ⟨j + 1, r - 61, by go_num, rfl, by have := HR.out; omega, by omega⟩
        case measure => simp [intOf]; omega
      · go_wp2
        go_ret
        exact ⟨ret_int (by have := HR.out; omega), rfl⟩

set_option maxHeartbeats 1000000 in
theorem rplace_any (i : Int) (w : World) (h1 : -9223372036854775808 ≤ i) (h2 : i ≤ 9223372036854775807) :
    Calls Try.prog 18 #[.int .i64 i] w fun e w' => e = .returned (.tuple #[.int .i64 (placeP i), .int .i64 (placeI i)]) ∧ w = w' := by
  unfold placeP placeI
  by_cases h : i < 0
  · rw [if_pos h, if_pos h]
    go_enter Try.func18, Try.ntmps18
    go_wp2
    go_ret2
    exact ⟨rfl, rfl⟩
  · rw [if_neg h, if_neg h]
    go_enter Try.func18, Try.ntmps18
    go_wp2
    go_loop [0, 4] (fun i' k => ∃ (j : Nat) (r : Int), k = .int .i64 (j : Int) ∧ i' = .int .i64 r ∧ r = i - 61 * (j : Int) ∧ 0 ≤ r) (fun i' _ => (intOf i').toNat)
    case atStart => exact ⟨0, i, rfl, rfl, by omega, by omega⟩
    case round =>
      obtain ⟨j, r, rfl, rfl, hr, hlo⟩ := hrel
      have HR := Lib.hid hr
      have hj : (j : Int) ≤ i := by omega
      have hrn : r ≤ i := by omega
      clear hr
      by_cases h0 : 60 < r
      · have hj1 : (j : Int) + 1 ≤ 9223372036854775807 := by have := HR.out; omega
        go_wp2
        go_round
        case rel => exact ⟨j + 1, r - 61, by go_num, rfl, by have := HR.out; omega, by omega⟩
        case measure => simp [intOf]; omega
      · have e1 : i / 61 = (j : Int) := by have := HR.out; omega
        have e2 : i % 61 = r := by have := HR.out; omega
        have E1 := Lib.hid e1; clear e1
        have E2 := Lib.hid e2; clear e2
        go_wp2
        go_ret2
        rw [E1.out, E2.out]
        exact ⟨rfl, rfl⟩

theorem rencode_wrong (A : Option Addr) (n c : Nat) (kind : UInt8) (w : World) (hn : n ≤ maxLen) (h : rightK kind = false ∨ 61 < n) :
    Calls Try.prog 12 #[.int .u8 (kind.toNat : Int), .slice A n c] w fun e w' => e = .returned (.tuple #[.slice none 0 0, .int .i64 50]) ∧ w = w' := by
  unfold maxLen at hn
  have h1 : (kind.toNat : Int) < 4 ∨ 5 < (kind.toNat : Int) ∨ (4 ≤ (kind.toNat : Int) ∧ (kind.toNat : Int) ≤ 5 ∧ 61 < n) := by
    rcases h with h | h
    · unfold rightK at h
      simp only [Bool.or_eq_false_iff, beq_eq_false_iff_ne] at h
      have h4 : kind.toNat ≠ 4 := fun e => h.1 (UInt8.toNat_inj.1 e)
      have h5 : kind.toNat ≠ 5 := fun e => h.2 (UInt8.toNat_inj.1 e)
      omega
    · omega
  clear h
  rcases h1 with h1 | h1 | ⟨h1, h2, h3⟩
  all_goals
    go_enter Try.func12, Try.ntmps12
    go_wp2
    go_ret2
    exact ⟨rfl, rfl⟩

end Go.Proofs.Ytcfamackncbndaa
