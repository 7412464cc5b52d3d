/-
  Small words that the laws share.
-/
import Derived.Test.YtfnoeligaapnbaaOctE
import Derived.Test.YtfnoeligaapnbaaPageB
import Derived.OpenShut
import Derived.RangeFuncBox
namespace Go.Proofs.Ytfnoeligaapnbaa
open Go.RowKit
set_option linter.unusedVariables false

theorem Blk8.new (w : World) (l : List UInt8) : Blk8 (w.alloc (.cells (bcells l).toArray 5)) w.heap.size l := heap_alloc_new w _

theorem Mem8.byte {w : World} {b n : Nat} {l : List UInt8} (h : Mem8 w b 0 n l) (i : Nat) (x : UInt8) (hx : l[i]? = some x) : w.cell? ⟨b, i, none⟩ = some (.int .u8 (x.toNat : Int)) ∧ w.frozen? ⟨b, i, none⟩ = false := by
  obtain ⟨hi, rfl⟩ := List.getElem?_eq_some_iff.1 hx
  have h1 := h.cell i hi
  have h2 := h.free i hi
  rw [Nat.zero_add] at h1 h2
  exact ⟨h1, h2⟩

/-- One byte written. -/
theorem Mem8.set {w : World} {b n : Nat} {l : List UInt8} (h : Mem8 w b 0 n l) (i : Nat) (x : UInt8) (hi : i < n) : Mem8 (w.setCell ⟨b, i, none⟩ (.int .u8 (x.toNat : Int))) b 0 n (l.set i x) := by
  have hl := h.len
  refine ⟨by simp [hl], by simpa [World.setCell] using h.lt, fun j hj => ?_, fun j hj => ?_⟩
  · have hj' : j < l.length := by simpa using hj
    rw [Nat.zero_add]
    by_cases e : i = j
    · subst e
      rw [List.getElem_set_self]
      have h1 := h.cell i hj'
      rw [Nat.zero_add] at h1
      exact World.cell?_setCell_same' _ _ _ (by rw [h1]; rfl)
    · rw [List.getElem_set_ne e, World.cell?_setCell_other w ⟨b, i, none⟩ ⟨b, j, none⟩ _ (fun e2 => by injection e2 with _ e3; exact e e3)]
      have h1 := h.cell j hj'
      rwa [Nat.zero_add] at h1
  · rw [World.frozen?_setCell]
    exact h.free j (by simpa using hj)

theorem Fresh8.open_ {w w' : World} {v : Value} {l : List UInt8} {n : Nat} (h : Fresh8 w w' v l) (hl : l.length = n) : ∃ g c, v = .slice (some ⟨g, 0, none⟩) n c ∧ w.heap.size ≤ g ∧ n ≤ c ∧ c ≤ maxLen ∧ Mem8 w' g 0 n l ∧ Below w.heap.size w w' := by
  subst hl
  exact h

theorem succ_ne (x : UInt8) : x + 1 ≠ x := by
  intro e
  have h := congrArg UInt8.toNat e
  have := UInt8.toNat_lt x
  rw [UInt8.toNat_add] at h
  have e1 : (1 : UInt8).toNat = 1 := rfl
  rw [e1] at h
  omega

/-- What a slice of bytes that came in reads as. -/
theorem rd8_of_row {w : World} {a : Option Addr} {len cap : Nat} {zs : List Int}
    (h : (a = none ∧ len = 0 ∧ cap = 0 ∧ zs = []) ∨ ∃ x, a = some x ∧ len ≤ cap ∧ cap ≤ maxLen ∧ zs.length = cap ∧ (∀ i, i < zs.length → w.cell? (x.add i) = some (.int .u8 (zs.getD i 0))) ∧ ∀ n ∈ zs, (Lit.int .u8 n).wf = true) :
    ∃ l, Reads8 w a len l ∧ len ≤ cap ∧ cap ≤ maxLen := by
  rcases h with ⟨rfl, rfl, rfl, rfl⟩ | ⟨x, rfl, hl, hm, hz, hc, hw⟩
  · exact ⟨[], Reads8.nil _ _, Nat.le_refl _, Nat.zero_le _⟩
  · refine ⟨(zs.take len).map (fun n => UInt8.ofNat n.toNat), ⟨by simp; omega, fun h0 => ?_⟩, hl, hm⟩
    obtain ⟨b, o, spot⟩ := x
    have h0' := hc 0 (by omega)
    have hspot : spot = none := by simpa [Addr.add] using World.cell?_spot h0'
    subst hspot
    refine ⟨b, o, rfl, ?_, fun j hj => ?_⟩
    · have := World.block_lt_of_cell? w _ h0'
      simpa [Addr.add] using this
    · have hj' : j < len := by simp at hj; omega
      have h1 := hc j (by omega)
      rw [Addr.add_lit'] at h1
      rw [h1]
      have h2 : zs.getD j 0 = zs[j]'(by omega) := by simp [List.getD, show j < zs.length by omega]
      have h3 := hw (zs[j]'(by omega)) (List.getElem_mem _)
      have h4 := bounds_u8 h3
      rw [h2]
      simp only [List.getElem_map, List.getElem_take]
      congr 2
      simp
      omega

theorem IntKind.wrap_u64' (n : Int) : IntKind.u64.wrap n = n % 18446744073709551616 := by simp [IntKind.wrap, IntKind.bits, IntKind.signed]

/-- 'x += 1 + y % 255' is another byte. -/
theorem byte_bump (x : UInt8) (y : Int) (h0 : 0 ≤ y) (h1 : y < 255) : ∃ z : UInt8, z ≠ x ∧ Value.int .u8 (((x.toNat : Int) + (1 + y)) % 256) = .int .u8 (z.toNat : Int) := by
  have hx := UInt8.toNat_lt x
  refine ⟨UInt8.ofNat ((x.toNat : Int) + (1 + y)).toNat, fun e => ?_, ?_⟩
  · have := congrArg UInt8.toNat e
    simp at this
    omega
  · simp
    omega

/-- A byte that came in. -/
theorem u8_of {a : Int} (h : (Lit.int .u8 a).wf = true) : ∃ u : UInt8, a = (u.toNat : Int) := by
  have hb := bounds_u8 h
  refine ⟨UInt8.ofNat a.toNat, ?_⟩
  simp
  omega

/-- n cells of block b hold some bytes. -/
def Some8 (w : World) (b n : Nat) : Prop := ∀ j, j < n → ∃ x : UInt8, w.cell? ⟨b, j, none⟩ = some (.int .u8 (x.toNat : Int))

theorem Mem8.some8 {w : World} {b n : Nat} {l : List UInt8} (h : Mem8 w b 0 n l) : Some8 w b n := fun j hj => by
  have h1 := h.cell j (by rw [h.len]; exact hj)
  rw [Nat.zero_add] at h1
  exact ⟨_, h1⟩

theorem Some8.set {w : World} {b n : Nat} (h : Some8 w b n) (i : Nat) (z : UInt8) : Some8 (w.setCell ⟨b, i, none⟩ (.int .u8 (z.toNat : Int))) b n := fun j hj => by
  obtain ⟨x, hx⟩ := h j hj
  by_cases e : i = j
  · subst e
    exact ⟨z, World.cell?_setCell_same' _ _ _ (by rw [hx]; rfl)⟩
  · exact ⟨x, by rw [World.cell?_setCell_other w ⟨b, i, none⟩ ⟨b, j, none⟩ _ (fun e2 => by injection e2 with _ e3; exact e e3)]; exact hx⟩

theorem byte_inc (x : UInt8) : Value.int .u8 (((x.toNat : Int) + 1) % 256) = .int .u8 ((x + 1).toNat : Int) := by
  rw [UInt8.toNat_add, show (1 : UInt8).toNat = 1 from rfl]; simp

theorem below_dN {B : Nat} {a w : World} (h : Below B a w) (k : Nat) : Below B a (w.drewN k) := ⟨h.os, h.tape, h.output, h.size, h.block⟩

theorem reads_heap {w W : World} {A : Option Addr} {n : Nat} {l : List UInt8} (h : Reads8 w A n l) (e : W.heap = w.heap) : Reads8 W A n l := by
  refine ⟨h.1, fun hn => ?_⟩
  obtain ⟨b, o, hA, hlt, hc⟩ := h.2 hn
  exact ⟨b, o, hA, by rw [e]; exact hlt, fun j hj => (World.cell?_of_block (w := w) (by rw [e])).trans (hc j hj)⟩

theorem Wrote.farR' {w w' : World} {b lo hi : Nat} (h : Wrote w w' b lo hi) {A : Option Addr} {n : Nat} {l : List UInt8} (hm : Reads8 w A n l) (hd : 0 < n → ∀ a, A = some a → a.block ≠ b) : Reads8 w' A n l := by
  rcases Nat.eq_zero_or_pos n with h0 | h0
  · exact ⟨hm.1, fun hn => absurd hn (by omega)⟩
  · exact h.farR hm (hd h0)

end Go.Proofs.Ytfnoeligaapnbaa
