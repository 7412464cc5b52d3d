/-
  What a crash leaves of a block: the plain law of DiskFirm.
-/
import Derived.Test.YtdnhlpddnbholaaDkT
import Derived.Maps.Own
import Derived.Maps.OwnOps
import Derived.Maps.Views
namespace Go.Proofs.Ytdnhlpddnbholaa
open Go.RowKit Go.Maps
set_option linter.unusedVariables false

theorem crashK_byte {D : Dk} (h : D.Ok) (keep : List Bool) (t : Int) (cut : Nat) (a i : Nat) (hc : cut ≤ 128) : ∀ k, k ≤ D.waits.length → ∀ x, ((crashK keep t cut D k).getD a [])[i]? = some x →
    (D.blks.getD a [])[i]? = some x ∨ ∃ j, j < k ∧ (D.waits.getD j nW).1 = a ∧ (D.waits.getD j nW).2[i]? = some x
  | 0, _, x, hx => .inl hx
  | k + 1, hk, x, hx => by
    have ih := crashK_byte h keep t cut a i hc k (by omega)
    obtain ⟨h1, h2⟩ := h.waitAt k (by omega)
    have more : (∀ y, ((crashK keep t cut D k).getD a [])[i]? = some y → (D.blks.getD a [])[i]? = some y ∨ ∃ j, j < k + 1 ∧ (D.waits.getD j nW).1 = a ∧ (D.waits.getD j nW).2[i]? = some y) := fun y hy => by
      rcases ih y hy with h | ⟨j, hj, r⟩
      · exact .inl h
      · exact .inr ⟨j, by omega, r⟩
    have put : ∀ c, c ≤ 128 → ((putB (crashK keep t cut D k) (D.waits.getD k nW) c).getD a [])[i]? = some x → (D.blks.getD a [])[i]? = some x ∨ ∃ j, j < k + 1 ∧ (D.waits.getD j nW).1 = a ∧ (D.waits.getD j nW).2[i]? = some x := fun c hc2 hp => by
      rw [putB_get _ _ _ _ (by rw [crashK_length]; exact h1)] at hp
      by_cases e : (D.waits.getD k nW).1 = a
      · rw [if_pos e] at hp
        by_cases hi : i < c
        · rw [List.getElem?_append_left (by rw [List.length_take]; omega), List.getElem?_take, if_pos hi] at hp
          exact .inr ⟨k, by omega, e, hp⟩
        · rw [List.getElem?_append_right (by rw [List.length_take]; omega), List.getElem?_drop, List.length_take, show min c (D.waits.getD k nW).2.length = c by omega, show c + (i - c) = i by omega] at hp
          exact more x hp
      · rw [if_neg e] at hp
        exact more x hp
    unfold crashK at hx
    split at hx
    · exact put cut hc hx
    · split at hx
      · exact put 128 (Nat.le_refl _) hx
      · exact more x hx

/-- A write as it waits. -/
def waitOf (x : UInt8 × UInt8) : Nat × List UInt8 := (x.1.toNat % 16, List.replicate 128 x.2)
theorem after_waits (l : List (UInt8 × UInt8)) (f : Nat) : ∀ k, k ≤ 1000 → (afterK l (f : Int) k).waits.length = k - firmN f k ∧ ∀ j, j < k - firmN f k → (afterK l (f : Int) k).waits.getD j nW = waitOf (l.getD (firmN f k + j) (0, 0))
  | 0, _ => ⟨(after_blks l f 0 (by omega) 0 (by omega)).2, fun j hj => by omega⟩
  | k + 1, h => by
    refine ⟨(after_blks l f 0 (by omega) (k + 1) h).2, fun j hj => ?_⟩
    obtain ⟨il, ih⟩ := after_waits l f k (by omega)
    have hL := afterK_live l (f : Int) k (by omega)
    have hlt : (l.getD k (0, 0)).1.toNat % 16 < 16 := Nat.mod_lt _ (by decide)
    unfold afterK
    split
    · rename_i e
      have ef : firmN f (k + 1) = k + 1 := by unfold firmN; rw [if_pos (by omega)]; omega
      rw [ef] at hj
      omega
    · rename_i e
      have ef : firmN f (k + 1) = firmN f k := by unfold firmN; split <;> split <;> omega
      have efk : firmN f k ≤ k := by unfold firmN; split <;> omega
      rw [ef] at hj ⊢
      rw [written_live hL _ hlt _ (by simp)]
      show ((afterK l (f : Int) k).waits ++ [((l.getD k (0, 0)).1.toNat % 16, List.replicate 128 (l.getD k (0, 0)).2)]).getD j nW = _
      rw [List.getD_eq_getElem?_getD]
      by_cases hj2 : j < k - firmN f k
      · rw [List.getElem?_append_left (by omega), ← List.getD_eq_getElem?_getD, ih j hj2]
      · rw [List.getElem?_append_right (by omega), il, show j - (k - firmN f k) = 0 by omega, show firmN f k + j = k by omega]
        rfl

/-- How many writes of the byte x at a there are among the first k, behind f of them. -/
def cntV (l : List (UInt8 × UInt8)) (f a : Nat) : Nat → UInt8 → Nat
  | 0, _ => 0
  | k + 1, x => if f ≤ k ∧ (l.getD k (0, 0)).1.toNat % 16 = a ∧ (l.getD k (0, 0)).2 = x then cntV l f a k x + 1 else cntV l f a k x
theorem cntV_succ (l : List (UInt8 × UInt8)) (f a k : Nat) (x : UInt8) : cntV l f a (k + 1) x = if f ≤ k ∧ (l.getD k (0, 0)).1.toNat % 16 = a ∧ (l.getD k (0, 0)).2 = x then cntV l f a k x + 1 else cntV l f a k x := rfl
theorem cntV_le (l : List (UInt8 × UInt8)) (f a : Nat) (x : UInt8) : ∀ k, cntV l f a k x ≤ k
  | 0 => Nat.le_refl _
  | k + 1 => by
    have := cntV_le l f a x k
    rw [cntV_succ]
    split <;> omega
theorem cntV_pos {l : List (UInt8 × UInt8)} {f a i : Nat} {x : UInt8} (h1 : f ≤ i) (h2 : (l.getD i (0, 0)).1.toNat % 16 = a) (h3 : (l.getD i (0, 0)).2 = x) : ∀ k, i < k → 0 < cntV l f a k x
  | 0, hi => by omega
  | k + 1, hi => by
    rw [cntV_succ]
    split
    · omega
    · rename_i hn
      by_cases e : i = k
      · subst e
        exact absurd ⟨h1, h2, h3⟩ hn
      · exact cntV_pos h1 h2 h3 k (by omega)

/-- DiskFirm's law: each byte stood there, or a write of that block had it there. -/
theorem firm_byte (l : List (UInt8 × UInt8)) (f m : Nat) (hf : f ≤ m) (hm : m ≤ 1000) (keep : List Bool) (t c : Int) (hc : 0 ≤ c ∧ c ≤ 128) (a i : Nat) (ha : a < 16) (hi : i < 128) (x : UInt8)
    (hx : (readB (crashed (afterK l (f : Int) m) keep t c) a)[i]? = some x) : x = lastV l f a ∨ 0 < cntV l f a m x := by
  have hL := afterK_live l (f : Int) m hm
  have hfn : firmN f m = f := by unfold firmN; rw [if_pos hf]
  obtain ⟨wl, wv⟩ := after_waits l f m hm
  have hb := (after_blks l f a ha m hm).1
  rw [hfn] at wl wv hb
  have e : crashed (afterK l (f : Int) m) keep t c = ⟨crashK keep t c.toNat (afterK l (f : Int) m) (afterK l (f : Int) m).waits.length, [], -1, false⟩ := by unfold crashed; rw [if_neg (by omega)]
  rw [e] at hx
  have hx2 : ((crashK keep t c.toNat (afterK l (f : Int) m) (afterK l (f : Int) m).waits.length).getD a [])[i]? = some x := hx
  rcases crashK_byte hL.ok keep t c.toNat a i (by omega) _ (Nat.le_refl _) x hx2 with h | ⟨j, hj, h1, h2⟩
  · rw [hb, List.getElem?_replicate, if_pos hi] at h
    injection h with h
    exact .inl h.symm
  · rw [wl] at hj
    rw [wv j hj] at h1 h2
    have h3 : (List.replicate 128 (l.getD (f + j) (0, 0)).2)[i]? = some x := h2
    rw [List.getElem?_replicate, if_pos hi] at h3
    injection h3 with h3
    exact .inr (cntV_pos (Nat.le_add_right f j) h1 h3 m (by omega))

theorem ownsMap_same {H : Type} {w w' : World} {P : Program} {k : TypeId} {R : Value → Option (DataW H × List MemPlace)} {b n : Nat} {D : DataW H} (h : w.ownsMap P k R b n D) (e : w'.heap[b]? = w.heap[b]?) : w'.ownsMap P k R b n D := by
  obtain ⟨es, clock, hb, r⟩ := h
  exact ⟨es, clock, e.trans hb, r⟩
theorem law8 : Keyed Try.prog 5 := int_keyed Try.underlying5
theorem zeroInt (w : World) : (zeroValue 3).run Try.prog w = .ok (.int .i64 0) w := by kernel_rfl

/-- What the map says behind j writes. -/
def Counted {H : Type} (l : List (UInt8 × UInt8)) (f a j : Nat) (D : DataW H) : Prop := IsMap D ∧ ∀ b : UInt8, D.atKey (.int .u8 (b.toNat : Int)) (.lit (.int .i64 0)) = .lit (.int .i64 (cntV l f a j b : Int))
theorem Counted.start {H : Type} (l : List (UInt8 × UInt8)) (f a : Nat) : Counted (H := H) l f a 0 (.map []) := ⟨isMap_empty, fun b => rfl⟩
theorem Counted.same {H : Type} {l : List (UInt8 × UInt8)} {f a j : Nat} {D : DataW H} (h : Counted l f a j D) (hn : ¬ (f ≤ j ∧ (l.getD j (0, 0)).1.toNat % 16 = a)) : Counted l f a (j + 1) D :=
  ⟨h.1, fun b => by rw [cntV_succ, if_neg (fun e => hn ⟨e.1, e.2.1⟩)]; exact h.2 b⟩
theorem Counted.step {H : Type} {l : List (UInt8 × UInt8)} {f a j : Nat} {D : DataW H} (h : Counted l f a j D) (hf : f ≤ j) (ha : (l.getD j (0, 0)).1.toNat % 16 = a) (b : UInt8) (hb : (l.getD j (0, 0)).2 = b) :
    Counted l f a (j + 1) (D.put (.int .u8 (b.toNat : Int)) (.lit (.int .i64 ((cntV l f a j b : Int) + 1)))) := by
  refine ⟨h.1.put _ _, fun b' => ?_⟩
  by_cases e : b = b'
  · subst e
    rw [atKey_put_same h.1 (show WideAt.IsKeyLit (.int .u8 (b.toNat : Int)) from trivial), cntV_succ, if_pos ⟨hf, ha, hb⟩]
    rfl
  · rw [atKey_put_other (fun e2 => e ?_), h.2 b', cntV_succ, if_neg (fun e2 => e (hb.symm.trans e2.2.2))]
    injection e2 with _ e3
    exact UInt8.toNat_inj.1 (by omega)
theorem counted_is {H : Type} {l : List (UInt8 × UInt8)} {f a j : Nat} {D : DataW H} (h : Counted l f a j D) {x : UInt8} {c : Int} (hat : D.atKey (.int .u8 (x.toNat : Int)) (.lit (.int .i64 0)) = .lit (.int .i64 c)) : c = (cntV l f a j x : Int) := by
  rw [h.2 x] at hat
  injection hat with hat
  injection hat with _ hat
  exact hat.symm

end Go.Proofs.Ytdnhlpddnbholaa
