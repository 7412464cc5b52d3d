/-
  ShelfHalves: the law; a shelf that comes in, with what its address may be.
-/
import Derived.Test.YtcljobkdihbflaaShLH
import Derived.Test.YtcljobkdihbflaaShOpen
namespace Go.Proofs.Ytcljobkdihbflaa
open Go.ChangeShapes Go.WideShapes Go.ChangeAt Go.RowKit Go.Joins Go.Deep
set_option linter.unusedVariables false

theorem open_shelf2 {H : Type} {enc : TypeId × Value → H} {W : World} {b0 : Nat} {v : Value} {d : DataW H} {p : List MemPlace}
    (hv : Value.okWide Try.prog W .any b0 25 v) (h : DataW.Trod enc Try.prog W 0 (fun _ => true) true 25 v d p) :
    ∃ (s : Shelf) (A : Option Addr) (n c : Nat), v = sval s A n c ∧ ReadsE W A n s.ents ∧ n ≤ c ∧ c ≤ maxLen ∧ ((A = none ∧ n = 0 ∧ c = 0) ∨ ∃ a, A = some a) := by
  obtain ⟨c0, c1, c2, y0, y1, y2, m, rfl, _, _, hy0, hy1, hy2⟩ := open_agg3 Try.underlying25 (by kernel_rfl) cellsShelf hv h
  obtain ⟨x0, e0', _, f0⟩ := DataW.trod_int Try.underlying5 hy0
  obtain ⟨x1, e1', _, f1⟩ := DataW.trod_int Try.underlying22 hy1
  simp at e0' e1'
  subst e0' e1'
  have b8 := wf_u8 f0
  have b32 := wf_u32 f1
  have key : ∃ l A n c, c2 = .slice A n c ∧ ReadsE W A n l ∧ n ≤ c ∧ c ≤ maxLen ∧ ((A = none ∧ n = 0 ∧ c = 0) ∨ ∃ a, A = some a) := by
    rcases open_slice_pairs Try.underlying23 Try.underlying37 cellsEntry rfl rfl (by kernel_rfl) (by kernel_rfl) hy2 with ⟨hcs, _⟩ | ⟨a, len, cap, m', n', V0, V1, D0, D1, P0, P1, hcs, _, hl, hm, hmm, _, hi⟩
    · simp at hcs
      subst hcs
      exact ⟨[], none, 0, 0, rfl, ReadsE.nil _ _, Nat.le_refl _, Nat.zero_le _, .inl ⟨rfl, rfl, rfl⟩⟩
    · simp at hcs
      subst hcs
      by_cases h0 : len = 0
      · subst h0
        exact ⟨[], some a, 0, cap, rfl, ReadsE.nil _ _, hl, hm, .inr ⟨_, rfl⟩⟩
      · have hm2 : m' = cap := by simpa using hmm
        obtain ⟨b, o, spot⟩ := a
        have h00 := (hi 0 (by omega)).1
        have hspot : spot = none := by simpa [Addr.add] using World.cell?_spot h00
        subst hspot
        have hb : b < W.heap.size := by
          have := World.block_lt_of_cell? W _ h00
          simpa [Addr.add] using this
        obtain ⟨l, hl2⟩ := readsE_of (w := W) (b := b) (o := o) (len := len) V0 V1 (fun _ => hb) (fun i hil => by
          obtain ⟨q0, q1, q2, q3⟩ := hi i (by omega)
          rw [Addr.add_lit'] at q0 q1
          obtain ⟨z0, ez0, _, w0⟩ := DataW.trod_int Try.underlying35 q2
          obtain ⟨z1, ez1, _, w1⟩ := DataW.trod_int Try.underlying22 q3
          simp at ez0 ez1
          have r0 := wf_u64 w0
          have r1 := wf_u32 w1
          exact ⟨q0, q1, ⟨z0.toNat, by rw [ez0]; congr 1; omega, by omega⟩, ⟨z1.toNat, by rw [ez1]; congr 1; omega, by omega⟩⟩)
        exact ⟨l, _, len, cap, rfl, hl2, hl, hm, .inr ⟨_, rfl⟩⟩
  obtain ⟨l, A, n, c, rfl, hr, hnc, hcm, hA⟩ := key
  refine ⟨⟨UInt8.ofNat x0.toNat, UInt32.ofNat x1.toNat, l⟩, A, n, c, ?_, hr, hnc, hcm, hA⟩
  unfold sval
  have g0 : ((UInt8.ofNat x0.toNat).toNat : Int) = x0 := by simp; omega
  have g1 : ((UInt32.ofNat x1.toNat).toNat : Int) = x1 := by simp; omega
  rw [g0, g1]

theorem halves_out (s : Shelf) (A : Option Addr) (n c : Nat) (D : UInt8) (w : World) (h : ReadsE w A n s.ents) (hn : n ≤ maxLen) (ho : 20 < n ∨ rightB s = false) :
    Calls Try.prog 3 #[sval s A n c, .int .u8 (D.toNat : Int)] w fun e w' => e = .returned (.bool true) ∧ Below w.heap.size w w' := by
  unfold maxLen at hn
  have HR := Lib.hid h; clear h
  have B0 := Lib.hid ((Below.refl w.heap.size w).alloc (Nat.le_refl _) (.cells #[.int .u8 (s.depth.toNat : Int), .int .u32 (s.next.toNat : Int), .slice A n c] 25))
  have HC := Lib.hid (right_any s A n c _ (HR.out.keep B0.out) (by simp only [maxLen]; omega))
  by_cases hn20 : 20 < n
  · clear ho HC B0
    unfold sval
    have hn20i : (20 : Int) < (n : Int) := by omega
    go_enter Try.func3, Try.ntmps3
    go_wp2_with (go_at_call 9; refine (awake_any _).mono ?_; rintro e w' ⟨rfl, hb⟩)
    go_ret
    exact ⟨rfl, ((Below.refl w.heap.size w).alloc (Nat.le_refl _) _).trans (hb.mono (by simp))⟩
  · have hr : rightB s = false := by rcases ho with h | h; exact absurd h hn20; exact h
    have HF := Lib.hid hr
    have hn20i : ¬ (20 : Int) < (n : Int) := by omega
    clear ho hn20 hr
    unfold sval
    go_enter Try.func3, Try.ntmps3
    go_wp2_with fail
    refine HC.out.mono ?_
    rintro e w1 ⟨rfl, hb⟩
    rw [HF.out]
    have B1 := Lib.hid (B0.out.trans (hb.mono B0.out.size)); clear hb
    go_wp2_with fail
    refine (awake_any _).mono ?_
    rintro e w' ⟨rfl, hb⟩
    have B2 := Lib.hid (B1.out.trans (hb.mono B1.out.size)); clear hb
    go_wp2_with fail
    go_ret
    exact ⟨rfl, B2.out⟩


theorem lawHalves (s : Shelf) (A : Option Addr) (n c : Nat) (D : UInt8) (w : World) (h : ReadsE w A n s.ents) (hnc : n ≤ c) (hcm : c ≤ maxLen) (hA : (A = none ∧ n = 0 ∧ c = 0) ∨ ∃ a, A = some a) :
    Calls Try.prog 3 #[sval s A n c, .int .u8 (D.toNat : Int)] w fun e w' => e = .returned (.bool true) ∧ Below w.heap.size w w' := by
  cases hr : rightB s
  · exact halves_out s A n c D w h (Nat.le_trans hnc hcm) (.inr hr)
  · have h9 := (rightB_iff.1 hr).2.2.1
    exact halves_in s A n c D w h (by have := h.1; omega) hnc hcm hA hr

end Go.Proofs.Ytcljobkdihbflaa
