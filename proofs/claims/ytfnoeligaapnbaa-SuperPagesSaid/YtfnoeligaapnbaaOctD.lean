/-
  octets.Seal: a page.
-/
import Derived.Test.YtfnoeligaapnbaaOctC
import Derived.Laws.CopyOwn
namespace Go.Proofs.Ytfnoeligaapnbaa
open Go.RowKit
set_option linter.unusedVariables false

/-- Block g is just the bytes l. -/
def Blk8 (w : World) (g : Nat) (l : List UInt8) : Prop := w.heap[g]? = some (.cells (bcells l).toArray 5 (0, 0))

theorem Blk8.heap {w : World} {g : Nat} {l : List UInt8} (h : Blk8 w g l) : w.heap[g]? = some (.cells (bcells l).toArray 5 (0, 0)) := h

theorem Blk8.mem {w : World} {g : Nat} {l : List UInt8} (h : Blk8 w g l) : Mem8 w g 0 l.length l :=
  Mem8.of_blk h rfl (fun j hj => by rw [Nat.zero_add]; simp [bcells_get hj]) (.inr (by simp))

theorem Blk8.of_made {w : World} {g n : Nat} {base : Nat} (h : w.ownsRow base 5 1 (.slice (some ⟨g, 0, none⟩) n n) n (madeCells #[Value.int .u8 0] n).toList) : Blk8 w g (List.replicate n 0) := by
  rw [made_cells] at h
  rcases h.2 with ⟨e, _⟩ | ⟨g', cap, cur, e, _, hh, _, _, hs, ht⟩
  · cases e
  · injection e with e1 _ e2
    injection e1 with e1
    injection e1 with e1
    subst e1; subst e2
    have hc : cur = (bcells (List.replicate n 0)).toArray := by
      rw [← ht, List.take_of_length_le (by simp [hs])]
    unfold Blk8
    rw [hh, hc]

theorem Blk8.set {w : World} {g : Nat} {l : List UInt8} (h : Blk8 w g l) (i : Nat) (x : UInt8) : Blk8 (w.setCell ⟨g, i, none⟩ (.int .u8 (x.toNat : Int))) g (l.set i x) := by
  unfold Blk8 at h ⊢
  simp [World.setCell, Array.getElem?_modify, h, bcells, List.map_set]

theorem Blk8.other {w w' : World} {g : Nat} {l : List UInt8} (h : Blk8 w g l) (e : w'.heap[g]? = w.heap[g]?) : Blk8 w' g l := e.trans h

theorem splice8 (l k : List UInt8) (o : Nat) : splice (bcells l) o (bcells k) = bcells (l.take o ++ (k ++ l.drop (o + k.length))) := by
  unfold splice
  simp [bcells]

theorem page_laid (m : Nat) (kind : UInt8) (body : List UInt8) : ((List.replicate (m + 1) (0 : UInt8)).set 0 kind).take 1 ++ (body ++ ((List.replicate (m + 1) (0 : UInt8)).set 0 kind).drop (1 + body.length)) = (kind :: body) ++ List.replicate (m - body.length) 0 := by
  rw [List.replicate_succ, List.set_cons_zero, Nat.add_comm 1, List.drop_succ_cons]
  simp

theorem said_take (kind : UInt8) (body : List UInt8) (h : body.length ≤ 123) : (kind :: body ++ List.replicate (127 - body.length) 0).take 124 = said kind body := by
  unfold said
  rw [show 127 - body.length = (123 - body.length) + 4 by omega, ← List.replicate_append_replicate, ← List.append_assoc, List.take_append_of_le_length (by simp; omega), List.take_of_length_le (by simp; omega)]

theorem seal_long (A : Option Addr) (n c : Nat) (kind : Int) (w : World) (hn : n ≤ maxLen) (h : 123 < n) :
    Calls Try.prog 22 #[.int .u8 kind, .slice A n c] w fun e w' => e = .returned (.tuple #[.slice none 0 0, .int .i64 3]) ∧ w = w' := by
  unfold maxLen at hn
  go_enter Try.func22, Try.ntmps22
  go_wp2
  go_ret2
  exact ⟨rfl, rfl⟩

set_option maxHeartbeats 400000 in
theorem seal_any (A : Option Addr) (n c : Nat) (kind : UInt8) (body : List UInt8) (w : World) (h : Reads8 w A n body) (hn : n ≤ 123) :
    Calls Try.prog 22 #[.int .u8 (kind.toNat : Int), .slice A n c] w fun e w' => ∃ v, e = .returned (.tuple #[v, .int .i64 0]) ∧ Fresh8 w w' v (pageOf kind body) := by
  obtain ⟨i0, hi, hz0, hz1, hz2⟩ := info_parts u8info
  have hl := Lib.hid h.1
  have HR := Lib.hid h; clear h
  go_enter Try.func22, Try.ntmps22
  go_wp2_with (at_make; refine wpList_make_full _ rfl _ _ 28 rfl w.heap.size 5 i0 (.int .u8 0) 1 Try.underlying28 hi hz0 hz1 .i64 .i64 _ _ 128 rfl rfl rfl rfl (by rw [hz2]; omega) (by simp only [maxLen]; omega) (Nat.le_refl _) ?_)
  intro w1 hown hgrow
  have hb1 : Below w.heap.size w w1 := (Below.refl _ _).grown hgrow (Nat.le_refl _) (by intro k hk; cases hk)
  have hblk := Blk8.of_made hown
  have hm := hblk.mem
  rw [List.length_replicate] at hm
  have hc0 : w1.cell? ⟨w.heap.size, 0, none⟩ = some (.int .u8 0) := by have := hm.cell 0 (by simp); simpa using this
  have hf0 : w1.frozen? ⟨w.heap.size, 0, none⟩ = false := by have := hm.free 0 (by simp); simpa using this
  have hsz := hm.lt
  clear hown hgrow hi hz0 hz1 hz2 i0 hm
  have HB := Lib.hid hb1; clear hb1
  have HK := Lib.hid hblk; clear hblk
  have hk2 := HK.out.set 0 kind
  have HK2 := Lib.hid hk2; clear hk2
  obtain ⟨L, hL⟩ : ∃ L, L = (List.replicate 128 (0 : UInt8)).set 0 kind := ⟨_, rfl⟩
  rw [← hL] at HK2
  have HL := Lib.hid hL; clear hL
  have hrd : Reads8 (w1.setCell ⟨w.heap.size, 0, none⟩ (.int .u8 (kind.toNat : Int))) A n body := HR.out.keep (HB.out.setCell (p := ⟨w.heap.size, 0, none⟩) (Nat.le_refl _) _)
  have HRD := Lib.hid hrd; clear hrd
  have hlen : (bcells body).length = Nat.min n 127 := by rw [bcells_length, hl.out]; exact (Nat.min_eq_left (by omega)).symm
  have hfit : 1 + (bcells body).length ≤ (bcells L).length := by rw [bcells_length, bcells_length, hl.out, HL.out]; simp; omega
  have hpos : 0 < (bcells body).length → (some ⟨w.heap.size, 1, none⟩ : Option Addr) = some ⟨w.heap.size, 1, none⟩ ∧ ∃ ad, A = some ad ∧ ∀ j v, (bcells body)[j]? = some v → (w1.setCell ⟨w.heap.size, 0, none⟩ (.int .u8 (kind.toNat : Int))).cell? (ad.add j) = some v := by
    intro h0
    rw [bcells_length] at h0
    obtain ⟨b, o, rfl, _, hc⟩ := HRD.out.2 (by rw [← hl.out]; exact h0)
    refine ⟨rfl, _, rfl, fun j v hj => ?_⟩
    have hjl : j < body.length := by have := (List.getElem?_eq_some_iff.1 hj).1; simpa [bcells_length] using this
    rw [bcells_get hjl] at hj
    injection hj with hj
    subst hj
    rw [Addr.add_lit']
    exact hc j hjl
  have Hlen := Lib.hid hlen; clear hlen
  have Hfit := Lib.hid hfit; clear hfit
  have Hpos := Lib.hid hpos; clear hpos
  have HB2 := Lib.hid (HB.out.setCell (p := ⟨w.heap.size, 0, none⟩) (Nat.le_refl _) (.int .u8 (kind.toNat : Int)))
  go_wp2_with (with_reducible refine wpList_copy_splice rfl (.tmp 17) (.tmp 18) 28 28 rfl 5 Try.underlying28 (by kernel_rfl) (some ⟨w.heap.size, 1, none⟩) A 127 127 n c rfl rfl w.heap.size 1 (bcells L) 5 HK2.out.heap (bcells body) Hlen.out Hpos.out Hfit.out (bcells_one body) w.heap.size w HB2.out (Nat.le_refl _) ?_)
  intro w2 HG2 hB2
  have HB3 := Lib.hid hB2; clear hB2
  have hsaid : L.take 1 ++ (body ++ L.drop (1 + body.length)) = (kind :: body) ++ List.replicate (127 - body.length) 0 := by
    rw [HL.out]
    exact page_laid 127 kind body
  have hk3 : Blk8 w2 w.heap.size ((kind :: body) ++ List.replicate (127 - body.length) 0) := by
    have := HG2.out
    rw [splice8, hsaid] at this
    exact this
  clear HG2 hsaid Hlen Hfit Hpos HB2 HRD HK2 HK hc0 hf0
  have hm := hk3.mem
  have hln : (kind :: body ++ List.replicate (127 - body.length) 0).length = 128 := by have := hl.out; simp; omega
  rw [hln] at hm
  have HM := Lib.hid hm; clear hm hk3 hln
  go_wp2_with fail
  refine (parts_any _ _ _ _ (by omega)).mono ?_
  rintro e w' ⟨rfl, q, rfl⟩
  have hs : Reads8 (w2.drewN q) (some ⟨w.heap.size, 0, none⟩) 124 (said kind body) := by
    have := (HM.out.sub 0 124 (by omega)).reads
    rw [List.drop_zero, said_take kind body (by have := hl.out; omega)] at this
    exact this.drewN q
  have hp : Mem8 (w2.drewN q) w.heap.size 124 4 (((kind :: body ++ List.replicate (127 - body.length) 0).drop 124).take 4) := by
    have := (HM.out.sub 124 4 (by omega)).drewN q
    simpa using this
  have HS := Lib.hid hs; clear hs
  have HP := Lib.hid hp; clear hp
  go_wp2_with fail
  refine (sum_any _ _ _ _ _ HS.out (by simp only [maxLen]; omega)).mono ?_
  rintro e w' ⟨rfl, rfl⟩
  have hsl := sum8_lt (said kind body)
  generalize hS : sum8 (said kind body) = S at *
  have HSS := Lib.hid hS; clear hS
  go_wp2_with fail
  refine (put_yes w.heap.size 124 4 4 _ 0 4 S _ HP.out (by simp only [maxLen]; omega) (Nat.le_refl _) (by omega) (by omega) (by omega) (by have : (256 : Nat) ^ 4 = 4294967296 := rfl; omega)).mono ?_
  rintro e w3 ⟨rfl, hw3, hm3⟩
  have HW3 := Lib.hid hw3; clear hw3
  have HM3 := Lib.hid hm3; clear hm3
  go_wp2_with fail
  go_ret2
  refine ⟨.slice (some ⟨w.heap.size, 0, none⟩) 128 128, rfl, w.heap.size, 128, ?_, Nat.le_refl _, ?_, by simp only [maxLen]; omega, ?_, ?_⟩
  · rw [pageOf_length kind body (by have := hl.out; omega)]
  · rw [pageOf_length kind body (by have := hl.out; omega)]; omega
  · rw [pageOf_length kind body (by have := hl.out; omega)]
    have h1 : Mem8 (w2.drewN q) w.heap.size (0 + 0) 124 _ := (HM.out.sub 0 124 (by omega)).drewN q
    have h2 := (HW3.out.far h1 (.inr (.inl (by omega)))).join (k := be S 4) (m := 4) (by simpa using HM3.out)
    rw [List.drop_zero, said_take kind body (by have := hl.out; omega)] at h2
    unfold pageOf
    rw [HSS.out]
    simpa using h2
  · have h1 : Below w.heap.size w (w2.drewN q) := ⟨HB3.out.os, HB3.out.tape, HB3.out.output, HB3.out.size, HB3.out.block⟩
    exact h1.trans (HW3.out.below (Nat.le_refl _))

end Go.Proofs.Ytfnoeligaapnbaa
