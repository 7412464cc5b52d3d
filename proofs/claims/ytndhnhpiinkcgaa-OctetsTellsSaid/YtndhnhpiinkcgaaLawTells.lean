/-
  OctetsTells: the walk.
-/
import Derived.Test.YtndhnhpiinkcgaaOctU
import Derived.Test.YtndhnhpiinkcgaaLawPages
namespace Go.Proofs.Ytndhnhpiinkcgaa
open Go.RowKit
set_option linter.unusedVariables false

/-- The four fields of what is asked, in a box. -/
def Box4 (w : World) (b : Nat) (at_ size : Int) (N : Int) (kind : Int) : Prop :=
  w.cell? ⟨b, 0, none⟩ = some (.int .i64 at_) ∧ w.cell? ⟨b, 1, none⟩ = some (.int .i64 size) ∧ w.cell? ⟨b, 2, none⟩ = some (.int .u64 N) ∧ w.cell? ⟨b, 3, none⟩ = some (.int .u8 kind)
theorem Box4.lt {w : World} {b : Nat} {x y z u : Int} (h : Box4 w b x y z u) : b < w.heap.size := World.block_lt_of_cell? w _ h.1
theorem Box4.keep {w w' : World} {b : Nat} {x y z u : Int} (h : Box4 w b x y z u) (hb : Below w.heap.size w w') : Box4 w' b x y z u :=
  ⟨(hb.cell (p := ⟨b, 0, none⟩) h.lt).trans h.1, (hb.cell (p := ⟨b, 1, none⟩) h.lt).trans h.2.1, (hb.cell (p := ⟨b, 2, none⟩) h.lt).trans h.2.2.1, (hb.cell (p := ⟨b, 3, none⟩) h.lt).trans h.2.2.2⟩
theorem Box4.wrote {w w' : World} {b g lo hi : Nat} {x y z u : Int} (h : Box4 w b x y z u) (hw : Wrote w w' g lo hi) (hne : b ≠ g) : Box4 w' b x y z u :=
  ⟨(World.cell?_of_block (a := ⟨b, 0, none⟩) (hw.other b hne)).trans h.1, (World.cell?_of_block (a := ⟨b, 1, none⟩) (hw.other b hne)).trans h.2.1, (World.cell?_of_block (a := ⟨b, 2, none⟩) (hw.other b hne)).trans h.2.2.1, (World.cell?_of_block (a := ⟨b, 3, none⟩) (hw.other b hne)).trans h.2.2.2⟩

set_option maxRecDepth 100000 in
theorem tells_out (A B : Option Addr) (n c m d : Nat) (v : Value) (x0 x1 x2 x3 : Value) (w : World) (hv : v = .agg #[x0, x1, x2, x3]) (hn : n ≤ maxLen) (hm : m ≤ maxLen) (h : 300 < n ∨ 300 < m) :
    Calls Try.prog 3 #[.slice A n c, .slice B m d, v] w fun e w' => e = .returned (.bool true) ∧ Below w.heap.size w w' := by
  subst hv
  unfold maxLen at hn hm
  by_cases h1 : 300 < n
  · go_enter Try.func3, Try.ntmps3
    go_wp2_with (go_at_call 9; refine (awake_any _).mono ?_; rintro e w' ⟨rfl, hb⟩)
    go_ret
    exact ⟨rfl, ((Below.refl _ _).alloc (Nat.le_refl _) _).trans (hb.mono (by simp))⟩
  · have h2 : 300 < m := by omega
    go_enter Try.func3, Try.ntmps3
    go_wp2_with (go_at_call 9; refine (awake_any _).mono ?_; rintro e w' ⟨rfl, hb⟩)
    go_ret
    exact ⟨rfl, ((Below.refl _ _).alloc (Nat.le_refl _) _).trans (hb.mono (by simp))⟩

theorem Wrote.farR' {w w' : World} {b lo hi : Nat} (h : Wrote w w' b lo hi) {A : Option Addr} {n : Nat} {l : List UInt8} (hm : Reads8 w A n l) (hd : 0 < n → ∀ a, A = some a → a.block ≠ b) : Reads8 w' A n l := by
  rcases Nat.eq_zero_or_pos n with h0 | h0
  · exact ⟨hm.1, fun hn => absurd hn (by omega)⟩
  · exact h.farR hm (hd h0)

/-- What stands all the way through the law. -/
structure Tl (w w' : World) (bx : Nat) (at_ size N kind : Int) (A : Option Addr) (n : Nat) (l : List UInt8) (B : Option Addr) (m : Nat) (p : List UInt8) (gi : Nat) (l' : List UInt8) (go : Nat) : Prop where
  box : Box4 w' bx at_ size N kind
  rl : Reads8 w' A n l
  rp : Reads8 w' B m p
  mi : Mem8 w' gi 0 n l'
  mo : Mem8 w' go 0 m p
  bel : Below w.heap.size w w'

theorem Tl.keep {w w1 w2 : World} {bx : Nat} {x y z u : Int} {A : Option Addr} {n : Nat} {l : List UInt8} {B : Option Addr} {m : Nat} {p : List UInt8} {gi : Nat} {l' : List UInt8} {go : Nat} (h : Tl w w1 bx x y z u A n l B m p gi l' go) (hb : Below w1.heap.size w1 w2) : Tl w w2 bx x y z u A n l B m p gi l' go :=
  ⟨h.box.keep hb, h.rl.keep hb, h.rp.keep hb, h.mi.keep hb, h.mo.keep hb, h.bel.trans (hb.mono h.bel.size)⟩

set_option maxHeartbeats 4000000 in
set_option maxRecDepth 100000 in
theorem tells_in (A B : Option Addr) (n c m d : Nat) (l p : List UInt8) (at_ size : Int) (N : Nat) (kind : UInt8) (w : World) (h : Reads8 w A n l) (hp : Reads8 w B m p) (hnc : n ≤ c) (hmd : m ≤ d) (hn : n ≤ 300) (hm : m ≤ 300) (hN : N < 18446744073709551616) :
    Calls Try.prog 3 #[.slice A n c, .slice B m d, .agg #[.int .i64 at_, .int .i64 size, .int .u64 (N : Int), .int .u8 (kind.toNat : Int)]] w fun e w' => e = .returned (.bool true) ∧ Below w.heap.size w w' := by
  have hl := Lib.hid h.1
  have hpl := Lib.hid hp.1
  have HN := Lib.hid hN; clear hN
  obtain ⟨O, hO⟩ : ∃ O : Obj, O = .cells #[.int .i64 at_, .int .i64 size, .int .u64 (N : Int), .int .u8 (kind.toNat : Int)] 25 := ⟨_, rfl⟩
  have hb0 : Below w.heap.size w (w.alloc O) := (Below.refl _ _).alloc (Nat.le_refl _) _
  have X0 : Hid (Box4 (w.alloc O) w.heap.size at_ size N kind.toNat) := by
    rw [hO]
    refine Lib.hid ⟨?_, ?_, ?_, ?_⟩ <;> exact (cell_of_row _ _ _ _ _ _ (heap_alloc_new w _)).trans rfl
  have hlt0 : w.heap.size < (w.alloc O).heap.size := by simp
  have R0 := Lib.hid (h.keep hb0)
  have P0 := Lib.hid (hp.keep hb0)
  have B0 := Lib.hid hb0
  clear hb0 hp
  have mx : n ≤ maxLen := by simp only [maxLen]; omega
  have mxp : m ≤ maxLen := by simp only [maxLen]; omega
  have MX := Lib.hid mx; clear mx
  have MXP := Lib.hid mxp; clear mxp
  have h' := Lib.hid h; clear h
  go_enter Try.func3, Try.ntmps3
  go_wp2_with fail
  have h := h'.out; clear h'
  rw [← hO]
  clear hO
  generalize hW0 : w.alloc O = w0 at *
  clear hW0
  refine (again_any A n c l _ R0.out MX.out).mono ?_
  rintro e w1 ⟨v, rfl, hF⟩
  obtain ⟨gi, ci, rfl, hgi, hci, hcmi, hM, hB⟩ := hF.open_ hl.out
  have X1 := Lib.hid (X0.out.keep hB)
  have R1 := Lib.hid (R0.out.keep hB)
  have P1 := Lib.hid (P0.out.keep hB)
  have B1 := Lib.hid (B0.out.trans (hB.mono B0.out.size))
  have I1 := Lib.hid hM
  have hgib : w.heap.size ≠ gi := by omega
  have hgiw : w.heap.size ≤ gi := by omega
  clear hM hB hF X0 R0 P0 B0 hlt0 hgi
  go_wp2_with fail
  refine (again_any B m d p _ P1.out MXP.out).mono ?_
  rintro e w2 ⟨v, rfl, hF⟩
  obtain ⟨go, co, rfl, hgo, hco, hcmo, hM, hB⟩ := hF.open_ hpl.out
  have T2 : Hid (Tl w w2 w.heap.size at_ size N kind.toNat A n l B m p gi l go) := Lib.hid ⟨X1.out.keep hB, R1.out.keep hB, P1.out.keep hB, I1.out.keep hB, hM, B1.out.trans (hB.mono B1.out.size)⟩
  have hgoi : go ≠ gi := by have := I1.out.lt; omega
  have hAgi : 0 < n → ∀ a, A = some a → a.block ≠ gi := by
    intro h0 a ha
    obtain ⟨b, o, e, hlt, _⟩ := h.2 h0
    rw [ha] at e
    injection e with e
    subst e
    show b ≠ gi
    omega
  clear hM hB hF X1 R1 P1 B1 I1 hgo h
  obtain ⟨G, hG⟩ : ∃ G, G = getN l at_ size := ⟨_, rfl⟩
  obtain ⟨F, hF⟩ : ∃ F, F = fitsB n at_ size := ⟨_, rfl⟩
  have HG := Lib.hid hG; clear hG
  have HF := Lib.hid hF; clear hF
  have g0 : ((G : Int) != (G : Int)) = false := by simp
  have f0 : (F != F) = false := by simp
  have k0 := T2.out.box.1
  have k1 := T2.out.box.2.1
  go_wp2_with fail
  refine (get_u _ n ci l at_ size _ T2.out.mi.reads MX.out hci).mono ?_
  rintro e w' ⟨rfl, rfl⟩
  rw [← HG.out, ← HF.out]
  go_wp2_with fail
  refine (rget_u _ n c l at_ size _ T2.out.rl MX.out hnc).mono ?_
  rintro e w' ⟨rfl, rfl⟩
  rw [← HG.out, ← HF.out]
  clear k0 k1
  go_wp2_with fail
  obtain ⟨S, hS⟩ : ∃ S, S = sum8 l := ⟨_, rfl⟩
  have hSl : S < 4294967291 := by rw [hS]; exact sum8_lt l
  have HS := Lib.hid hS; clear hS
  have s0 : ((S : Int) != (S : Int)) = false := by simp
  refine (sum_any _ n ci l _ T2.out.mi.reads MX.out).mono ?_
  rintro e w' ⟨rfl, rfl⟩
  rw [← HS.out]
  go_wp2_with fail
  refine (rsum_any _ n c l _ T2.out.rl MX.out).mono ?_
  rintro e w' ⟨rfl, rfl⟩
  rw [← HS.out]
  go_wp2_with fail
  have q0 : same8 l l = true := same8_iff.2 rfl
  have q1 : same8 p p = true := same8_iff.2 rfl
  refine (equal_any _ _ n n ci c l l _ T2.out.mi.reads T2.out.rl).mono ?_
  rintro e w' ⟨rfl, rfl⟩
  rw [q0]
  have k3 := T2.out.box.2.2.2
  obtain ⟨PL, hPL⟩ : ∃ PL, PL = sealL kind l := ⟨_, rfl⟩
  obtain ⟨PE, hPE⟩ : ∃ PE, PE = sealE l := ⟨_, rfl⟩
  have HPL := Lib.hid hPL; clear hPL
  have HPE := Lib.hid hPE; clear hPE
  have p0 : (PE != PE) = false := by simp
  go_wp2_with fail
  refine (seal_u _ n ci kind l _ T2.out.mi.reads MX.out).mono ?_
  rintro e w3 ⟨A1, n1, c1, rfl, hr1, hnc1, hB⟩
  rw [← HPL.out] at hr1
  rw [← HPE.out]
  have T3 := Lib.hid (T2.out.keep hB)
  have Q1 := Lib.hid hr1
  clear hB hr1 T2 k3
  have k3 := T3.out.box.2.2.2
  go_wp2_with fail
  refine (rseal_u _ n c kind l _ T3.out.rl MX.out).mono ?_
  rintro e w4 ⟨A2, n2, c2, rfl, hr2, hnc2, hB⟩
  rw [← HPL.out] at hr2
  rw [← HPE.out]
  have T4 := Lib.hid (T3.out.keep hB)
  have Q1' := Lib.hid (Q1.out.keep hB)
  have Q2 := Lib.hid hr2
  clear hB hr2 T3 k3 Q1
  obtain ⟨OK, hOK⟩ : ∃ OK, OK = openK p := ⟨_, rfl⟩
  obtain ⟨OL, hOL⟩ : ∃ OL, OL = openL p := ⟨_, rfl⟩
  obtain ⟨OE, hOE⟩ : ∃ OE, OE = openE p := ⟨_, rfl⟩
  have HOK := Lib.hid hOK; clear hOK
  have HOL := Lib.hid hOL; clear hOL
  have HOE := Lib.hid hOE; clear hOE
  have o0 : (OE != OE) = false := by simp
  have o1 : ((OK.toNat : Int) != (OK.toNat : Int)) = false := by simp
  go_wp2_with fail
  refine (open_u _ m co p _ T4.out.mo.reads MXP.out hco).mono ?_
  rintro e w5 ⟨A3, n3, c3, rfl, hr3, hnc3, hB⟩
  rw [← HOL.out] at hr3
  rw [← HOE.out, ← HOK.out]
  have T5 := Lib.hid (T4.out.keep hB)
  have Q1'' := Lib.hid (Q1'.out.keep hB)
  have Q2' := Lib.hid (Q2.out.keep hB)
  have Q3 := Lib.hid hr3
  clear hB hr3 T4 Q1' Q2
  go_wp2_with fail
  refine (ropen_u _ m d p _ T5.out.rp MXP.out hmd).mono ?_
  rintro e w6 ⟨A4, n4, c4, rfl, hr4, hnc4, hB⟩
  rw [← HOL.out] at hr4
  rw [← HOE.out, ← HOK.out]
  have T6 := Lib.hid (T5.out.keep hB)
  have Z1 := Lib.hid (Q1''.out.keep hB)
  have Z2 := Lib.hid (Q2'.out.keep hB)
  have Z3 := Lib.hid (Q3.out.keep hB)
  have Z4 := Lib.hid hr4
  clear hB hr4 T5 Q1'' Q2' Q3
  go_wp2_with fail
  refine (equal_any _ _ n1 n2 c1 c2 PL PL _ Z1.out Z2.out).mono ?_
  rintro e w' ⟨rfl, rfl⟩
  rw [show same8 PL PL = true from same8_iff.2 rfl]
  go_wp2_with fail
  refine (equal_any _ _ n3 n4 c3 c4 OL OL _ Z3.out Z4.out).mono ?_
  rintro e w' ⟨rfl, rfl⟩
  rw [show same8 OL OL = true from same8_iff.2 rfl]
  clear Z1 Z2 Z3 Z4
  go_wp2_with fail
  refine (equal_any _ _ n n ci c l l _ T6.out.mi.reads T6.out.rl).mono ?_
  rintro e w' ⟨rfl, rfl⟩
  rw [q0]
  go_wp2_with fail
  refine (equal_any _ _ m m co d p p _ T6.out.mo.reads T6.out.rp).mono ?_
  rintro e w' ⟨rfl, rfl⟩
  rw [q1]
  clear p0 o0 o1 g0 f0 s0
  obtain ⟨UB, hUB⟩ : ∃ UB, UB = putB n at_ size N := ⟨_, rfl⟩
  obtain ⟨UL, hUL⟩ : ∃ UL, UL = putL l at_ size N := ⟨_, rfl⟩
  have HUB := Lib.hid hUB; clear hUB
  have HUL := Lib.hid hUL; clear hUL
  have u0 : (UB == UB) = true := by simp
  have k0 := T6.out.box.1
  have k1 := T6.out.box.2.1
  have k2 := T6.out.box.2.2.1
  go_wp2_with fail
  refine (put_u gi n ci l at_ size N _ T6.out.mi MX.out hci HN.out).mono ?_
  rintro e w7 ⟨rfl, hm7, hw7⟩
  rw [← HUL.out] at hm7
  rw [← HUB.out]
  have X7 := Lib.hid (T6.out.box.wrote hw7 hgib)
  have R7 := Lib.hid (hw7.farR' T6.out.rl hAgi)
  have B7 := Lib.hid (T6.out.bel.trans (hw7.below hgiw))
  have I7 := Lib.hid hm7
  clear hm7 hw7 T6 k0 k1 k2
  have k0 := X7.out.1
  have k1 := X7.out.2.1
  have k2 := X7.out.2.2.1
  go_wp2_with fail
  refine (rput_u _ n c l at_ size N _ R7.out hn HN.out).mono ?_
  rintro e w8 ⟨A5, n5, c5, rfl, hr5, hnc5, hB⟩
  rw [← HUL.out] at hr5
  rw [← HUB.out]
  have I8 := Lib.hid (I7.out.keep hB)
  have B8 := Lib.hid (B7.out.trans (hB.mono B7.out.size))
  have Z5 := Lib.hid hr5
  clear hB hr5 I7 B7 R7 X7 k0 k1 k2
  go_wp2_with fail
  refine (equal_any _ _ n n5 ci c5 UL UL _ I8.out.reads Z5.out).mono ?_
  rintro e w' ⟨rfl, rfl⟩
  rw [show same8 UL UL = true from same8_iff.2 rfl]
  go_wp2_with fail
  refine (awake_any _).mono ?_
  rintro e w' ⟨rfl, hb⟩
  have B9 := Lib.hid (B8.out.trans (hb.mono B8.out.size)); clear hb
  go_wp2_with fail
  go_ret
  exact ⟨rfl, B9.out⟩

end Go.Proofs.Ytndhnhpiinkcgaa
