/-
  DirTells: what is asked, opened; the law.
-/
import Derived.Test.YtlkmcjjdjbdihaaDrLT
import Derived.Test.YtlkmcjjdjbdihaaDrOpen
namespace Go.Proofs.Ytlkmcjjdjbdihaa
open Go.ChangeShapes Go.WideShapes Go.ChangeAt Go.RowKit Go.Joins Go.Maps
set_option linter.unusedVariables false

theorem array5 {α : Type} {cs : Array α} (h : cs.size = 5) : ∃ c0 c1 c2 c3 c4, cs = #[c0, c1, c2, c3, c4] := by
  obtain ⟨l⟩ := cs
  match l, h with
  | [c0, c1, c2, c3, c4], _ => exact ⟨c0, c1, c2, c3, c4, rfl⟩
theorem cellsAsked : Try.prog.cellsOf 28 = 5 := by kernel_rfl
theorem cells64 : Try.prog.cellsOf 25 = 1 := by kernel_rfl
theorem cellsInt : Try.prog.cellsOf 3 = 1 := by kernel_rfl
theorem cells16 : Try.prog.cellsOf 26 = 1 := by kernel_rfl

theorem open_asked {H : Type} {enc : TypeId × Value → H} {W : World} {b0 : Nat} {v : Value} {d : DataW H} {p : List MemPlace}
    (hv : Value.okWide Try.prog W .any b0 28 v) (h : DataW.Trod enc Try.prog W 0 (fun _ => true) true 28 v d p) :
    ∃ (x : UInt64) (s k t : Int) (y : UInt16), v = askV (x.toNat : Int) s k t (y.toNat : Int) := by
  obtain ⟨cs, rfl, hsz⟩ := okWide_struct Try.underlying28 hv
  obtain ⟨c0, c1, c2, c3, c4, rfl⟩ := array5 (hsz.trans cellsAsked)
  obtain ⟨fuel, hf⟩ := h
  obtain ⟨xs, n, _, hx, hl, hlen, hg⟩ := DataW.trod_struct Try.underlying28 hf
  match xs, hlen with
  | [y0, y1, y2, y3, y4], _ =>
    have g0 := hg 0 _ rfl
    have g1 := hg 1 _ rfl
    have g2 := hg 2 _ rfl
    have g3 := hg 3 _ rfl
    have g4 := hg 4 _ rfl
    simp [cells64, cellsInt, cells16, Value.cells] at g0 g1 g2 g3 g4
    obtain ⟨x0, e0, _, f0⟩ := DataW.trod_int Try.underlying25 g0
    obtain ⟨x1, e1, _, f1⟩ := DataW.trod_int Try.underlying3 g1
    obtain ⟨x2, e2, _, f2⟩ := DataW.trod_int Try.underlying3 g2
    obtain ⟨x3, e3, _, f3⟩ := DataW.trod_int Try.underlying3 g3
    obtain ⟨x4, e4, _, f4⟩ := DataW.trod_int Try.underlying26 g4
    simp at e0 e1 e2 e3 e4
    subst e0 e1 e2 e3 e4
    obtain ⟨u, rfl⟩ := u64_of f0
    obtain ⟨y, rfl⟩ := u16_of f4
    exact ⟨u, x1, x2, x3, y, rfl⟩

theorem bucket_rd {w w' : World} {v : Value} {base : Nat} {l : List Int} {E : Int} (h : w'.ownsRow base 3 1 v l.length (icells l)) : ∃ A n c, v = .slice A n c ∧ ReadsI w' A n l ∧ n ≤ maxLen := by
  obtain ⟨A, c, e, r, h1, h2⟩ := own_readsI h
  exact ⟨A, _, c, e, r, Nat.le_trans h1 h2⟩

theorem lawTells (d : Dir) (A : Option Addr) (n c : Nat) (x : UInt64) (s k t : Int) (y : UInt16) (w : World) (h : ReadsW w A n d.slots) (hn : n ≤ maxLen) :
    Calls Try.prog 3 #[dval d A n c, askV (x.toNat : Int) s k t (y.toNat : Int)] w fun e w' => e = .returned (.bool true) ∧ Below w.heap.size w w' := by
  by_cases h64 : 64 < n
  · exact tells_long d A n c _ s k t _ w h hn h64
  · obtain ⟨uV, uE, u1, u2⟩ := buddy_gen s k t
    exact tells_walk d (outD (pointD d s k y) (pointE d s k y)) (outD (doubleD d) (doubleE d)) (outD (halveD d) (halveE d)) A n c (x.toNat : Int) s k t (y.toNat : Int)
      (if rightB d = true then (slotOf d.depth.toNat x : Int) else 0) (if rightB d = true then 0 else 170) (depthV d s) (bucketE d s) (pointE d s k y) (doubleE d) (halveE d) uV uE (bucketL d s) (rightB d) w h (by omega)
      (Lib.hid fun w A n c h hn => at_any d A n c x w h hn) (Lib.hid fun w A n c h hn => rat_any d A n c x w h hn)
      (Lib.hid fun w A n c h hn => (Bucket_any d A n c s w h hn).mono fun e w' ⟨v, h1, h2, h3⟩ => by
        obtain ⟨A', n', c', rfl, r, hm⟩ := bucket_rd (w := w) (E := 0) h2
        exact ⟨A', n', c', h1, r, hm, h3⟩)
      (Lib.hid fun w A n c h hn => (rbucket_any d A n c s w h hn).mono fun e w' ⟨v, h1, h2, h3⟩ => by
        obtain ⟨A', n', c', rfl, r, hm⟩ := bucket_rd (w := w) (E := 0) h2
        exact ⟨A', n', c', h1, r, hm, h3⟩)
      (Lib.hid fun w A n c h hn => depth_gen d A n c s w h hn)
      (Lib.hid fun w A n c h hn => right_any d A n c w h hn) (Lib.hid fun w A n c h hn => rright_any d A n c w h hn)
      (Lib.hid fun w A n c h hn => (point_any d A n c s k y w h hn).mono fun e w' h => retv_of h) (Lib.hid fun w A n c h hn => rpoint_any d A n c s k y w h hn)
      (Lib.hid fun w A n c h hn => (double_any d A n c w h hn).mono fun e w' h => retv_of h) (Lib.hid fun w A n c h hn => rdouble_any d A n c w h hn)
      (Lib.hid fun w A n c h hn => (halve_any d A n c w h hn).mono fun e w' h => retv_of h) (Lib.hid fun w A n c h hn => rhalve_any d A n c w h hn)
      (Lib.hid u1) (Lib.hid u2)

end Go.Proofs.Ytlkmcjjdjbdihaa
