/-
  Words in memory of one's own.
-/
import Derived.Test.YtlkmcjjdjbdihaaDrDblP
namespace Go.Proofs.Ytlkmcjjdjbdihaa
open Go.RowKit Go.Maps
set_option linter.unusedVariables false

/-- A slice that reads as the words l and lies in memory at base or above (if it lies anywhere). -/
def OwnW (w : World) (base : Nat) (A : Option Addr) (n c : Nat) (l : List UInt16) : Prop :=
  ReadsW w A n l ∧ n ≤ c ∧ c ≤ maxLen ∧ (0 < n → ∃ g, A = some ⟨g, 0, none⟩ ∧ base ≤ g ∧ MemC w g 0 (wcells l))
theorem OwnW.keep {w w' : World} {base n c : Nat} {A : Option Addr} {l : List UInt16} (h : OwnW w base A n c l) (hb : Below w.heap.size w w') : OwnW w' base A n c l :=
  ⟨h.1.keep hb, h.2.1, h.2.2.1, fun h0 => by obtain ⟨g, e, hg, hm⟩ := h.2.2.2 h0; exact ⟨g, e, hg, hm.keep hb⟩⟩
theorem own_OwnW {w : World} {base n : Nat} {v : Value} {l : List UInt16} (h : w.ownsRow base 26 1 v n (wcells l)) : ∃ A c, v = .slice A n c ∧ OwnW w base A n c l := by
  obtain ⟨A, c, e, r, h1, h2⟩ := own_readsW h
  refine ⟨A, c, e, r, h1, h2, fun h0 => ?_⟩
  rcases h.2 with ⟨_, h3⟩ | ⟨g, cap, cur, e1, hg, hh, _⟩
  · omega
  · rw [e1] at h e
    injection e with e2 e3 e4
    subst e2 e4
    exact ⟨g, rfl, hg, (MemC.of_ownC h).1⟩
theorem own_ne {w : World} {base n c : Nat} {A : Option Addr} {l : List UInt16} (h : OwnW w base A n c l) (h0 : ¬ n = 0) : ∀ a, A = some a → a.block ≠ w.heap.size := fun a ha => by
  obtain ⟨g, e, _, hm⟩ := h.2.2.2 (Nat.pos_of_ne_zero h0)
  rw [e] at ha
  injection ha with ha
  subst ha
  exact Nat.ne_of_lt hm.at_.lt
theorem of_agg (d : Dir) (A : Option Addr) (n c : Nat) (w : World) : Calls Try.prog 11 #[.int .u8 (d.depth.toNat : Int), .slice A n c] w fun e w' => e = .returned (.agg #[.int .u8 (d.depth.toNat : Int), .slice A n c]) ∧ Below w.heap.size w w' := of_any d _ rfl A n c w
theorem own_nil16 (X : World) : (X.alloc (.cells #[] 26)).ownsRow X.heap.size 26 1 (.slice (some ⟨X.heap.size, 0, none⟩) 0 0) 0 [] :=
  World.ownsRow_lit (e := 26) (size := 1) X #[] 0 (Nat.le_refl _) (Nat.zero_le _) rfl
theorem OwnW.only {w w' : World} {base n c P g : Nat} {A : Option Addr} {l : List UInt16} (h : OwnW w base A n c l) (ho : Only w w' P g) (hP : 0 < n → ∀ a, A = some a → a.block ≠ P ∧ a.block ≠ g) : OwnW w' base A n c l := by
  refine ⟨⟨h.1.1, fun h0 => ?_⟩, h.2.1, h.2.2.1, fun h0 => ?_⟩
  · have hn : 0 < n := by rw [wcells_length] at h0; rw [← h.1.1]; exact h0
    obtain ⟨b, o, e, hb, hc⟩ := h.1.2 h0
    obtain ⟨n1, n2⟩ := hP hn _ e
    exact ⟨b, o, e, by rw [ho.size]; exact hb, fun j hj => (ho.cell n1 n2).trans (hc j hj)⟩
  · obtain ⟨g', e, hg, hm⟩ := h.2.2.2 h0
    obtain ⟨n1, n2⟩ := hP h0 _ e
    exact ⟨g', e, hg, hm.only ho n1 n2⟩

end Go.Proofs.Ytlkmcjjdjbdihaa
