/-
  shelf.Decode: what is no shelf's page.
-/
import Derived.Test.YtcljobkdihbflaaShE
import Derived.Deep.RegionLaw
import Derived.Deep.DrawnRows
namespace Go.Proofs.Ytcljobkdihbflaa
open Go.RowKit
set_option linter.unusedVariables false
attribute [local go_sem ↓] Go.wp_at_zero Go.wp_at_succ

theorem below_set3 {N : Nat} {w W : World} (h : Below N w W) {R : Nat} (hR : N ≤ R) (a b c : Value) : Below N w (((W.setCell ⟨R, 0, none⟩ a).setCell ⟨R, 1, none⟩ b).setCell ⟨R, 2, none⟩ c) :=
  ((h.setCell (p := ⟨R, 0, none⟩) hR a).setCell (p := ⟨R, 1, none⟩) hR b).setCell (p := ⟨R, 2, none⟩) hR c
def sz : Value := .agg #[.int .u8 0, .int .u32 0, .slice none 0 0]
theorem isPage_len {p : List UInt8} (h : isPage p = true) : p.length = 128 := by
  unfold isPage at h; simp only [Bool.and_eq_true, decide_eq_true_eq] at h; exact h.1

set_option maxHeartbeats 2000000 in
set_option maxRecDepth 100000 in
theorem decode_none (A : Option Addr) (n c : Nat) (p : List UInt8) (w : World) (h : Reads8 w A n p) (hn : n ≤ maxLen) (hnc : n ≤ c) (hp : isPage p = false) :
    Calls Try.prog 11 #[.slice A n c] w fun e w' => e = .returned (.tuple #[sz, .int .i64 40]) ∧ Below w.heap.size w w' := by
  have HR := Lib.hid h; clear h
  have HP := Lib.hid hp; clear hp
  have B0 := Lib.hid ((Below.refl w.heap.size w).alloc (Nat.le_refl _) (.cells #[.int .u8 0, .int .u32 0, .slice none 0 0] 25))
  go_enter Try.func11, Try.ntmps11
  go_wp2_with fail
  refine (open_no A n c p _ (HR.out.keep B0.out) hn hnc HP.out).mono ?_
  rintro e w1 ⟨rfl, q, rfl⟩
  go_wp2_with fail
  refine bodyPost_ret (v := .tuple #[sz, .int .i64 40]) (by simp [results, Try.results11, go_sem, sz]) rfl ⟨rfl, ?_⟩
  exact below_set3 (below_dN B0.out _) (Nat.le_refl _) _ _ _

set_option maxHeartbeats 2000000 in
set_option maxRecDepth 100000 in
theorem decode_kind (A : Option Addr) (n c : Nat) (p : List UInt8) (w : World) (h : Reads8 w A n p) (hn : n ≤ maxLen) (hnc : n ≤ c) (hp : isPage p = true) (hk : p.headD 0 ≠ 3) :
    Calls Try.prog 11 #[.slice A n c] w fun e w' => e = .returned (.tuple #[sz, .int .i64 40]) ∧ Below w.heap.size w w' := by
  have HR := Lib.hid h; clear h
  have HP := Lib.hid hp; clear hp
  have HL := Lib.hid (bodyOf_length HP.out)
  have hgen : ∀ kd : UInt8, kd ≠ 3 → ((kd.toNat : Int) != 3) = true := by
    intro kd hk
    simp; intro e; exact hk (UInt8.toNat_inj.1 (by show kd.toNat = 3; omega))
  obtain ⟨kd, hkd⟩ : ∃ kd, kd = p.headD 0 := ⟨_, rfl⟩
  rw [← hkd] at hk
  have hk3 := hgen _ hk
  have HKD := Lib.hid hkd
  clear hk hgen hkd
  obtain ⟨W0, hW0⟩ : ∃ W0 : World, W0 = w.alloc (.cells #[.int .u8 0, .int .u32 0, .slice none 0 0] 25) := ⟨_, rfl⟩
  have B0 : Hid (Below w.heap.size w W0) := Lib.hid (by rw [hW0]; exact (Below.refl _ _).alloc (Nat.le_refl _) _)
  have hM : MemC W0 w.heap.size 0 [.int .u8 0, .int .u32 0, .slice none 0 0] := by rw [hW0]; exact MemC.new w [.int .u8 0, .int .u32 0, .slice none 0 0] 25
  have M0 := Lib.hid hM; clear hM
  have HW := Lib.hid hW0; clear hW0
  go_enter Try.func11, Try.ntmps11
  go_upto_region 1 with fail
  rw [← HW.out]
  clear HW
  go_wp2_with fail
  refine (open_yes A n c p _ (HR.out.keep B0.out) hnc HP.out).mono ?_
  rw [← HKD.out]
  rintro e w1 ⟨v, rfl, hF⟩
  obtain ⟨g, d, rfl, hg, hd, hdm, hM, hB⟩ := hF.open_ HL.out
  have M1 := M0.out.keep hB
  obtain ⟨a0, f0⟩ := M1.get 0 _ rfl
  obtain ⟨a1, f1⟩ := M1.get 1 _ rfl
  obtain ⟨a2, f2⟩ := M1.get 2 _ rfl
  have B1 := Lib.hid (B0.out.trans (hB.mono B0.out.size))
  clear hM hB hF M1
  go_wp2_with fail
  refine bodyPost_ret (v := .tuple #[sz, .int .i64 40]) (by simp [results, Try.results11, go_sem, sz, a0, a1, a2]) rfl ⟨rfl, ?_⟩
  exact below_set3 B1.out (Nat.le_refl _) _ _ _

theorem own_block {w : World} {base s n : Nat} {e : TypeId} {v : Value} {xs : List Value} (h : w.ownsRow base e s v n xs) {b : Nat} (hb : b < base) : some b ≠ v.ownBlock := by
  rcases h.2 with ⟨rfl, _⟩ | ⟨g, cap, cur, rfl, hg, _⟩
  · simp [Value.ownBlock]
  · intro e
    simp [Value.ownBlock] at e
    omega
theorem Only.frozen {w w' : World} {P g b o : Nat} (h : Only w w' P g) (h1 : b ≠ P) (h2 : b ≠ g) : w'.frozen? ⟨b, o, none⟩ = w.frozen? ⟨b, o, none⟩ := by
  simp only [World.frozen?, h.other b h1 h2]
theorem frozen_alloc_far (w : World) (o : Obj) (b i : Nat) (h : b < w.heap.size) : (w.alloc o).frozen? ⟨b, i, none⟩ = w.frozen? ⟨b, i, none⟩ :=
  ((Below.refl w.heap.size w).alloc (Nat.le_refl _) o).frozen (p := ⟨b, i, none⟩) h
theorem cell_alloc_far (w : World) (o : Obj) (b i : Nat) (h : b < w.heap.size) : (w.alloc o).cell? ⟨b, i, none⟩ = w.cell? ⟨b, i, none⟩ :=
  ((Below.refl w.heap.size w).alloc (Nat.le_refl _) o).cell (p := ⟨b, i, none⟩) h
theorem own_base {w : World} {base s n : Nat} {e : TypeId} {v : Value} {xs : List Value} (h : w.ownsRow base e s v n xs) : ∀ q, v.ownBlock = some q → base ≤ q := by
  intro q hq
  rcases h.2 with ⟨rfl, _⟩ | ⟨g, cap, cur, rfl, hg, _⟩
  · simp [Value.ownBlock] at hq
  · simp [Value.ownBlock] at hq
    omega
theorem MemC.below {w w' : World} {B P : Nat} {xs : List Value} (h : MemC w P 0 xs) (hb : Below B w w') (hP : P < B) : MemC w' P 0 xs :=
  ⟨⟨Nat.lt_of_lt_of_le h.at_.lt hb.size, fun j hj => (hb.cell (p := ⟨P, 0 + j, none⟩) hP).trans (h.at_.cell j hj)⟩, fun j hj => (hb.frozen (p := ⟨P, 0 + j, none⟩) hP).trans (h.free j hj)⟩
theorem MemC.only {w w' : World} {P g b : Nat} {xs : List Value} (h : MemC w b 0 xs) (ho : Only w w' P g) (h1 : b ≠ P) (h2 : b ≠ g) : MemC w' b 0 xs := h.other (ho.other b h1 h2) ho.size
theorem PenR.only {w w' : World} {P g d k S : Nat} {b : List UInt8} (h : PenR w P g d b k) (ho : Only w w' S S) (h1 : P ≠ S) (h2 : g ≠ S) : PenR w' P g d b k :=
  ⟨h.pen.only ho h1 h1, h.mem.other (ho.other g h2 h2) ho.size, h.ne, h.cap⟩
theorem ecells_snoc (l : List Ent) (e : Ent) : ecells (l ++ [e]) = ecells l ++ ecell e := by simp [ecells]
theorem own_keep {w w' : World} {base s n : Nat} {e : TypeId} {v : Value} {xs : List Value} (h : w.ownsRow base e s v n xs) (hb : Below w.heap.size w w') : w'.ownsRow base e s v n xs :=
  ⟨h.1, h.2.imp id fun ⟨q, cap, cur, e1, hq, hh, r⟩ => ⟨q, cap, cur, e1, hq, (hb.block q (Array.getElem?_eq_some_iff.1 hh).1).trans hh, r⟩⟩
theorem own_only {w w' : World} {base s n P g : Nat} {e : TypeId} {v : Value} {xs : List Value} (h : w.ownsRow base e s v n xs) (ho : Only w w' P g) (hP : P < base) (hg : g < base) : w'.ownsRow base e s v n xs :=
  ⟨h.1, h.2.imp id fun ⟨q, cap, cur, e1, hq, hh, r⟩ => ⟨q, cap, cur, e1, hq, (ho.other q (by omega) (by omega)).trans hh, r⟩⟩
theorem own_drew {w : World} {b s n : Nat} {e : TypeId} {v : Value} {xs : List Value} (h : w.ownsRow b e s v n xs) : w.drew.ownsRow b e s v n xs := h
theorem PenR.drew {w : World} {P g d k : Nat} {b : List UInt8} (h : PenR w P g d b k) : PenR w.drew P g d b k := ⟨h.pen.drew, h.mem.drew, h.ne, h.cap⟩
theorem ecell_one (x : Ent) : ∀ u ∈ ecell x, u.oneCell' = true := by
  intro u hu
  simp only [ecell, List.mem_cons, List.not_mem_nil, or_false] at hu
  rcases hu with rfl | rfl <;> rfl
theorem penget8 (P g d k : Nat) (b : List UInt8) (w : World) (h : PenR w P g d b k) (h3 : k + 8 ≤ 123) :
    Calls Try.prog 24 #[.pointer (some ⟨P, 0, none⟩), .int .i64 8] w fun e w' => e = .returned (.int .u64 (numAt b k 8 : Int)) ∧ PenR w' P g d b (k + 8) ∧ Only w w' P P := penget P g d k b 8 w h (by omega) (by omega) h3
theorem penget4 (P g d k : Nat) (b : List UInt8) (w : World) (h : PenR w P g d b k) (h3 : k + 4 ≤ 123) :
    Calls Try.prog 24 #[.pointer (some ⟨P, 0, none⟩), .int .i64 4] w fun e w' => e = .returned (.int .u64 (numAt b k 4 : Int)) ∧ PenR w' P g d b (k + 4) ∧ Only w w' P P := penget P g d k b 4 w h (by omega) (by omega) h3
theorem ecell_at (b : List UInt8) (k : Nat) : ecell (entAt b k) = [.int .u64 (numAt b (6 + 12 * k) 8 : Int), .int .u32 (numAt b (6 + 12 * k + 8) 4 : Int)] := by
  have l1 := numAt_lt b (6 + 12 * k) 8
  have l2 := numAt_lt b (6 + 12 * k + 8) 4
  unfold ecell entAt
  rw [show 14 + 12 * k = 6 + 12 * k + 8 by omega]
  have e1 : (UInt64.ofNat (numAt b (6 + 12 * k) 8)).toNat = numAt b (6 + 12 * k) 8 := by simp; omega
  have e2 : (UInt32.ofNat (numAt b (6 + 12 * k + 8) 4)).toNat = numAt b (6 + 12 * k + 8) 4 := by simp; omega
  rw [e1, e2]

/-- A slice that the call owns reads as its entries. -/
theorem own_readsE {w : World} {base n : Nat} {e : TypeId} {v : Value} {l : List Ent} (h : w.ownsRow base e 2 v n (ecells l)) : ∃ A c, v = .slice A n c ∧ ReadsE w A n l ∧ n ≤ c ∧ c ≤ maxLen := by
  have hl : l.length = n := by have := h.1; rw [ecells_length] at this; omega
  rcases h.2 with ⟨rfl, h0⟩ | ⟨g, cap, cur, rfl, hg, hh, hn, hm, hs, ht⟩
  · have h0 : n = 0 := h0
    subst h0
    have : l = [] := List.eq_nil_of_length_eq_zero hl
    subst this
    exact ⟨none, 0, rfl, ReadsE.nil _ _, Nat.le_refl _, by simp [maxLen]⟩
  · refine ⟨_, cap, rfl, ⟨hl, ?_⟩, hn, hm⟩
    refine (MemC.of_blk hh (fun j hj => ?_) (.inr (by simp))).cells
    have hc := ecells_length l
    have e1 : cur.toList[j]? = (ecells l)[j]? := by rw [← ht, List.getElem?_take]; simp; omega
    rw [Nat.zero_add, ← Array.getElem?_toList, e1, List.getElem?_eq_getElem hj]

theorem any_all (l : List UInt8) : l.all (· == 0) = !l.any (· != 0) := by
  induction l with
  | nil => rfl
  | cons x l ih =>
    rw [List.all_cons, List.any_cons, ih, Bool.not_or]
    cases hx : (x == 0) <;> simp [bne, hx]

/-- What a decode gives: a shelf that lies in memory of its own; or nothing. -/
def DecS (p : List UInt8) (w : World) (e : Ending) (w' : World) : Prop :=
  (isShelf p = true ∧ ∃ v N, e = .returned (.tuple #[.agg #[.int .u8 ((shelfOf p).depth.toNat : Int), .int .u32 ((shelfOf p).next.toNat : Int), v], .int .i64 0]) ∧ w.heap.size ≤ N ∧ w'.ownsRow N 37 2 v (shelfOf p).ents.length (ecells (shelfOf p).ents) ∧ Below w.heap.size w w') ∨
  (isShelf p = false ∧ e = .returned (.tuple #[sz, .int .i64 40]) ∧ Below w.heap.size w w')

theorem entinfo : (Try.prog.info? 37).map (fun i => (i.zero, i.size, i.bytes)) = some (some (.agg #[.int .u64 0, .int .u32 0]), 2, 16) := by kernel_rfl

set_option maxHeartbeats 8000000 in
set_option maxRecDepth 100000 in
theorem decode_page (A : Option Addr) (n c : Nat) (p : List UInt8) (w : World) (h : Reads8 w A n p) (hn : n ≤ maxLen) (hnc : n ≤ c) (hp : isPage p = true) (hk : p.headD 0 = 3) :
    Calls Try.prog 11 #[.slice A n c] w fun e w' => DecS p w e w' := by
  have HR := Lib.hid h; clear h
  have HP := Lib.hid hp; clear hp
  have HL := Lib.hid (bodyOf_length HP.out)
  have HK := Lib.hid hk; clear hk
  obtain ⟨W0, hW0⟩ : ∃ W0 : World, W0 = w.alloc (.cells #[.int .u8 0, .int .u32 0, .slice none 0 0] 25) := ⟨_, rfl⟩
  have B0 : Hid (Below w.heap.size w W0) := Lib.hid (by rw [hW0]; exact (Below.refl _ _).alloc (Nat.le_refl _) _)
  have hM : MemC W0 w.heap.size 0 [.int .u8 0, .int .u32 0, .slice none 0 0] := by rw [hW0]; exact MemC.new w [.int .u8 0, .int .u32 0, .slice none 0 0] 25
  have M0 := Lib.hid hM; clear hM
  have HW := Lib.hid hW0; clear hW0
  go_enter Try.func11, Try.ntmps11
  go_upto_region 1 with fail
  rw [← HW.out]
  clear HW
  go_wp2_with fail
  refine (open_yes A n c p _ (HR.out.keep B0.out) hnc HP.out).mono ?_
  rw [HK.out]
  rintro e w1 ⟨v, rfl, hF⟩
  obtain ⟨g, d, rfl, hg, hd, hdm, hM, hB⟩ := hF.open_ HL.out
  replace hM : Mem8 w1 g 0 123 (bodyOf p) := hM
  have M1 := Lib.hid (M0.out.keep hB)
  have B1 := Lib.hid (B0.out.trans (hB.mono B0.out.size))
  obtain ⟨b, hb⟩ : ∃ b, b = bodyOf p := ⟨_, rfl⟩
  rw [← hb] at hM
  have HL' : Hid (b.length = 123) := Lib.hid (by rw [hb]; exact HL.out)
  have HBP := Lib.hid hb; clear hb
  obtain ⟨W2, hW2⟩ : ∃ W2 : World, W2 = w1.alloc (.cells #[.slice (some ⟨g, 0, none⟩) 123 d, .int .i64 0] 47) := ⟨_, rfl⟩
  have hb2 : Below w1.heap.size w1 W2 := by rw [hW2]; exact (Below.refl _ _).alloc (Nat.le_refl _) _
  have hsz2 : W2.heap.size = w1.heap.size + 1 := by rw [hW2]; simp
  have hgw : g < w1.heap.size := hM.lt
  have hpen : PenR W2 w1.heap.size g d b 0 := by
    refine ⟨?_, hM.keep hb2, by omega, hd⟩
    rw [hW2]; exact MemC.new w1 [.slice (some ⟨g, 0, none⟩) 123 d, .int .i64 0] 47
  have P2 := Lib.hid hpen
  have B2 := Lib.hid (B1.out.trans (hb2.mono B1.out.size))
  have M2 := Lib.hid (M1.out.keep hb2)
  have HW2 := Lib.hid hW2
  have Z2 := Lib.hid hsz2
  have ZG := Lib.hid hgw
  have zr : w.heap.size < w1.heap.size := M1.out.at_.lt
  have ZR := Lib.hid zr
  have ZG2 : Hid (w.heap.size < g) := Lib.hid (by have := M0.out.at_.lt; omega)
  clear hM hB hF hb2 hsz2 hgw hpen hW2 zr HR B0 M0 M1 hg
  have hd7 : (123 : Int) ≤ (d : Int) := by omega
  go_upto_region 6 with fail
  rw [← HW2.out]
  clear HW2
  go_wp2_with fail
  refine (penget w1.heap.size g d 0 b 1 _ P2.out (by omega) (by omega) (by omega)).mono ?_
  rintro e w3 ⟨rfl, hp3, ho3⟩
  have lx0 := numAt_lt b 0 1
  obtain ⟨x0, hx0⟩ : ∃ x, x = numAt b 0 1 := ⟨_, rfl⟩
  rw [← hx0] at lx0 ⊢
  have X0 := Lib.hid hx0; clear hx0
  have lx0i : (x0 : Int) < 256 := by omega
  have M3 := M2.out.other (ho3.other _ (by have := ZR.out; omega) (by have := ZR.out; omega)) ho3.size
  have B3 := B2.out.trans (ho3.below (Nat.le_of_lt ZR.out) (Nat.le_of_lt ZR.out))
  have hS : w3.heap.size = w1.heap.size + 1 := ho3.size.trans Z2.out
  obtain ⟨W4, hW4⟩ : ∃ W4 : World, W4 = w3.alloc (.cells #[.int .u8 (x0 : Int), .int .u32 0, .slice none 0 0] 25) := ⟨_, rfl⟩
  have hb4 : Below w3.heap.size w3 W4 := by rw [hW4]; exact (Below.refl _ _).alloc (Nat.le_refl _) _
  have hsz4 : W4.heap.size = w3.heap.size + 1 := by rw [hW4]; simp
  have hms : MemC W4 w3.heap.size 0 [.int .u8 (x0 : Int), .int .u32 0, .slice none 0 0] := by rw [hW4]; exact MemC.new w3 [.int .u8 (x0 : Int), .int .u32 0, .slice none 0 0] 25
  have P4 := Lib.hid (hp3.keep hb4)
  have B4 := Lib.hid (B3.trans (hb4.mono B3.size))
  have M4 := Lib.hid (M3.keep hb4)
  have MS4 := Lib.hid hms
  have HW4 := Lib.hid hW4
  have ZS := Lib.hid hS
  have Z4 := Lib.hid hsz4
  clear hp3 ho3 M3 B3 hS hW4 hb4 hsz4 hms P2 M2 B2 lx0
  go_upto_region 7 with fail
  rw [← HW4.out]
  clear HW4
  go_wp2_with fail
  refine (penget w1.heap.size g d 1 b 1 _ P4.out (by omega) (by omega) (by omega)).mono ?_
  rintro e w5 ⟨rfl, hp, ho⟩
  have lx1 := numAt_lt b 1 1
  obtain ⟨x1, hx1⟩ : ∃ x, x = numAt b 1 1 := ⟨_, rfl⟩
  rw [← hx1] at lx1 ⊢
  have X1 := Lib.hid hx1; clear hx1
  have P5 := Lib.hid hp
  have M5 := Lib.hid (M4.out.other (ho.other _ (by have := ZR.out; omega) (by have := ZR.out; omega)) ho.size)
  have MS5 := Lib.hid (MS4.out.other (ho.other _ (by have := ZS.out; omega) (by have := ZS.out; omega)) ho.size)
  have B5 := Lib.hid (B4.out.trans (ho.below (Nat.le_of_lt ZR.out) (Nat.le_of_lt ZR.out)))
  have Z5 := Lib.hid (ho.size.trans Z4.out)
  clear hp ho P4 M4 MS4 B4 Z4
  go_wp2_with fail
  refine (penget w1.heap.size g d 2 b 4 _ P5.out (by omega) (by omega) (by omega)).mono ?_
  rintro e w6 ⟨rfl, hp, ho⟩
  have lx2 := numAt_lt b 2 4
  obtain ⟨x2, hx2⟩ : ∃ x, x = numAt b 2 4 := ⟨_, rfl⟩
  rw [← hx2] at lx2 ⊢
  have X2 := Lib.hid hx2; clear hx2
  have lx2i : (x2 : Int) < 4294967296 := by omega
  have M6 := M5.out.other (ho.other _ (by have := ZR.out; omega) (by have := ZR.out; omega)) ho.size
  have MS6 := MS5.out.other (ho.other _ (by have := ZS.out; omega) (by have := ZS.out; omega)) ho.size
  have B6 := B5.out.trans (ho.below (Nat.le_of_lt ZR.out) (Nat.le_of_lt ZR.out))
  have Z6 := ho.size.trans Z5.out
  obtain ⟨s1, sf1⟩ := MS6.get 1 _ rfl
  obtain ⟨W7, hW7⟩ : ∃ W7 : World, W7 = w6.setCell ⟨w3.heap.size, 1, none⟩ (.int .u32 (x2 : Int)) := ⟨_, rfl⟩
  have o7 : Only w6 W7 w3.heap.size w3.heap.size := by rw [hW7]; exact Only.set _ _ _ _ _
  have ms7 : MemC W7 w3.heap.size 0 [.int .u8 (x0 : Int), .int .u32 (x2 : Int), .slice none 0 0] := by rw [hW7]; exact MS6.setAt 1 (by simp) _
  have M7 := Lib.hid (M6.other (o7.other _ (by have := ZS.out; have := ZR.out; omega) (by have := ZS.out; have := ZR.out; omega)) o7.size)
  have MS7 := Lib.hid ms7
  have B7 := Lib.hid (B6.trans (o7.below (by have := ZS.out; have := ZR.out; omega) (by have := ZS.out; have := ZR.out; omega)))
  have Z7 := Lib.hid (o7.size.trans Z6)
  have P7 : Hid (PenR W7 w1.heap.size g d b 6) := Lib.hid (hp.below (o7.below (B := w3.heap.size) (Nat.le_refl _) (Nat.le_refl _)) (by have := ZS.out; omega) (by have := ZS.out; have := ZG.out; omega))
  have HW7 := Lib.hid hW7
  clear hp ho M6 MS6 B6 Z6 o7 ms7 P5 M5 MS5 B5 Z5 hW7 lx2
  go_upto_region 9 with fail
  rw [← HW7.out]
  clear HW7 s1 sf1
  have hmany : manyOf (bodyOf p) = x1 := by rw [X1.out, HBP.out]; rfl
  have HMY := Lib.hid hmany; clear hmany
  by_cases h9 : x1 ≤ 9
  · have lz : w1.heap.size < W7.heap.size ∧ g < W7.heap.size ∧ w3.heap.size < W7.heap.size ∧ w.heap.size < W7.heap.size := by
      have := Z7.out; have := ZS.out; have := ZG.out; have := ZR.out; omega
    have LZ := Lib.hid lz; clear lz
    have h9i : ¬ (9 : Int) < (x1 : Int) := by omega
    clear lx1 lx0i lx2i h9
    go_wp2_with fail
    go_loopw [43] (fun i wr => ∃ (k : Nat) (v : Value), k ≤ x1 ∧ i = .int .u64 k ∧ PenR wr w1.heap.size g d b (6 + 12 * k) ∧ MemC wr w3.heap.size 0 [.int .u8 (x0 : Int), .int .u32 (x2 : Int), v] ∧ wr.ownsRow W7.heap.size 37 2 v k (ecells (entsOf b k)) ∧ MemC wr w.heap.size 0 [.int .u8 0, .int .u32 0, .slice none 0 0] ∧ Below w.heap.size w wr ∧ W7.heap.size ≤ wr.heap.size) (fun i _ => x1 - (intOf i).toNat)
    case atStart => exact ⟨0, _, Nat.zero_le _, rfl, P7.out, MS7.out, World.ownsRow_nil _ _ _ _, M7.out, B7.out, Nat.le_refl _⟩
    case round =>
      clear P7 MS7 M7 B7
      obtain ⟨k, v, hk, rfl, hpr, hms, hown, hmr, hb, hle⟩ := hrel
      have HPR := Lib.hid hpr; clear hpr
      have HMS := Lib.hid hms; clear hms
      have HO := Lib.hid hown; clear hown
      have HMR := Lib.hid hmr; clear hmr
      have HB := Lib.hid hb; clear hb
      have HLE := Lib.hid hle; clear hle
      by_cases hlt : k < x1
      · obtain ⟨s2, sf2⟩ := HMS.out.get 2 _ rfl
        have ls := HMS.out.at_.lt
        have lb := numAt_lt b (6 + 12 * k + 8) 4
        have lbi : IntKind.u32.wrap (numAt b (6 + 12 * k + 8) 4 : Int) = (numAt b (6 + 12 * k + 8) 4 : Int) := IntWalk.u32_in _ (by omega)
        clear lb
        go_wp2_with fail
        go_region_law
          ((first
            | (refine step_appendC (by rfl) _ _ 23 (by rfl) W7.heap.size 37 (.agg #[.int .u64 0, .int .u32 0]) 2 16 Try.underlying23 entinfo rfl (by omega) v k (ecells (entsOf b k)) (by rfl) ?_ (some ⟨w9.heap.size, 0, none⟩) 1 1 (ecell (entAt b k)) (by rfl) (by rfl) ?_ (ecell_one _) (by simp only [maxLen]; omega) (by omega) ?_ ?_; (exact hO9.out.alloc _); (rw [ecell_at]; exact (MemC.new w9 _ 37).cells); (have h1 := hz9.out; have h2 := HLE.out; simp at h1 ⊢; omega); intro v' w' hown hgrow hnil hat; have hne : v' ≠ .slice none 0 0 := (by simpa using hnil); have rc := (hgrow.cell_far ⟨w3.heap.size, 2, none⟩ (by simp; omega) (own_block HO.out LZ.out.2.2.1)).trans ((cell_alloc_far _ _ _ _ hz4).trans (q9.trans (q8.trans s2))); have rf := (hgrow.frozen_far ⟨w3.heap.size, 2, none⟩ (by simp; omega) (own_block HO.out LZ.out.2.2.1)).trans ((frozen_alloc_far _ _ _ _ hz4).trans (q9f.trans (q8f.trans sf2))); obtain ⟨g3, d3, rfl, _⟩ := own_shapeC hown hne)
            | (go_simp; go_at_call 24; (with_reducible refine (penget8 w1.heap.size g d (6 + 12 * k) b _ ?_ ?_).mono ?_); exact HPR.out.drew; omega; rintro e w8 ⟨rfl, hp8, ho8⟩; have q8 := ho8.cell (b := w3.heap.size) (o := 2) (by have := ZS.out; omega) (by have := ZS.out; omega); have q8f := ho8.frozen (b := w3.heap.size) (o := 2) (by have := ZS.out; omega) (by have := ZS.out; omega))
            | (go_simp; go_at_call 24; (with_reducible refine (penget4 w1.heap.size g d (6 + 12 * k + 8) b _ ?_ ?_).mono ?_); exact hp8; omega; rintro e w9 ⟨rfl, hp9, ho9⟩; have q9 := ho9.cell (b := w3.heap.size) (o := 2) (by have := ZS.out; omega) (by have := ZS.out; omega); have q9f := ho9.frozen (b := w3.heap.size) (o := 2) (by have := ZS.out; omega) (by have := ZS.out; omega); have hO9 := Lib.hid (own_only (own_only (own_drew HO.out) ho8 LZ.out.1 LZ.out.1) ho9 LZ.out.1 LZ.out.1); have hz9 := Lib.hid (ho9.size.trans ho8.size); have hz3 : w3.heap.size < w9.heap.size + 1 := (by have h1 := hz9.out; simp at h1; omega); have hz4 : w3.heap.size < w9.heap.size := (by have h1 := hz9.out; simp at h1; omega))))
        all_goals
          have hsz9 : W7.heap.size ≤ w9.heap.size := by have h1 := hz9.out; have h2 := HLE.out; simp at h1; omega
          have hb9 : Below W7.heap.size w9 w' := ((Below.refl _ w9).alloc hsz9 _).grown hgrow (by simp; omega) (own_base HO.out)
          have oS := Only.set w' w3.heap.size w3.heap.size 2 (.slice (some ⟨g3, 0, none⟩) (k + 1) d3)
          have nP : w1.heap.size ≠ w3.heap.size := by have := ZS.out; omega
          have nG : g ≠ w3.heap.size := by have := ZS.out; have := ZG.out; omega
          have nR : w.heap.size ≠ w3.heap.size := by have := ZS.out; have := ZR.out; omega
          have nR2 : w.heap.size ≠ w1.heap.size := by have := ZR.out; omega
          have p10 := Lib.hid ((hp9.below hb9 LZ.out.1 LZ.out.2.1).only oS nP nG)
          have ms10 := Lib.hid (((((HMS.out.drew).only ho8 nP.symm nP.symm).only ho9 nP.symm nP.symm).below hb9 LZ.out.2.2.1).setAt 2 (by simp) (.slice (some ⟨g3, 0, none⟩) (k + 1) d3))
          have mr10 := Lib.hid (((((HMR.out.drew).only ho8 nR2 nR2).only ho9 nR2 nR2).below hb9 LZ.out.2.2.2).only oS nR nR)
          have ow10 := Lib.hid (own_only hown oS LZ.out.2.2.1 LZ.out.2.2.1)
          have b10 : Hid (Below w.heap.size w (w'.setCell ⟨w3.heap.size, 2, none⟩ (.slice (some ⟨g3, 0, none⟩) (k + 1) d3))) := Lib.hid ((((HB.out.drew.trans (ho8.below (Nat.le_of_lt ZR.out) (Nat.le_of_lt ZR.out))).trans (ho9.below (Nat.le_of_lt ZR.out) (Nat.le_of_lt ZR.out))).trans (hb9.mono (Nat.le_of_lt LZ.out.2.2.2))).trans (oS.below (by have := ZS.out; have := ZR.out; omega) (by have := ZS.out; have := ZR.out; omega)))
          have le10 : Hid (W7.heap.size ≤ (w'.setCell ⟨w3.heap.size, 2, none⟩ (.slice (some ⟨g3, 0, none⟩) (k + 1) d3)).heap.size) := Lib.hid (by have := hb9.size; have := oS.size; omega)
          clear hb9 hsz9 oS nP nG nR nR2 hp9 hp8 ho8 ho9 hown hgrow hnil hat hne q8 q9 q8f q9f rc rf hz3 hz4 s2 sf2 ls lbi hz9
          go_wp2_with fail
          go_roundw
          case rel => exact ⟨k + 1, _, by omega, by go_num, p10.out, ms10.out, by rw [entsOf_succ, ecells_snoc]; exact ow10.out, mr10.out, b10.out, le10.out⟩
          case measure => simp [intOf]; omega
      · obtain rfl : k = x1 := by omega
        obtain ⟨A', c', rfl, hrd, hkc, hcm⟩ := own_readsE HO.out
        have e0 : (UInt8.ofNat x0).toNat = x0 := by simp; have := X0.out; have := numAt_lt b 0 1; omega
        have e2 : (UInt32.ofNat x2).toNat = x2 := by simp; have := X2.out; have := numAt_lt b 2 4; omega
        have hs : shelfOf p = ⟨UInt8.ofNat x0, UInt32.ofNat x2, entsOf b k⟩ := by
          unfold shelfOf shelfAt
          rw [HMY.out, ← HBP.out, ← X0.out, ← X2.out]
        have hiS : isShelf p = (rightB (shelfOf p) && !(b.drop (6 + 12 * k)).any (· != 0)) := by
          unfold isShelf
          rw [HP.out, HK.out, HMY.out, decide_eq_true (show k ≤ 9 by omega), ← HBP.out, any_all]
          rfl
        obtain ⟨s, hsd⟩ : ∃ s, s = shelfOf p := ⟨_, rfl⟩
        rw [← hsd] at hs hiS
        have hsv : Value.agg #[.int .u8 (x0 : Int), .int .u32 (x2 : Int), .slice A' k c'] = sval s A' k c' := by
          unfold sval
          rw [hs]
          show _ = Value.agg #[.int .u8 ((UInt8.ofNat x0).toNat : Int), .int .u32 ((UInt32.ofNat x2).toNat : Int), .slice A' k c']
          rw [e0, e2]
        have hse : s.ents = entsOf b k := by rw [hs]
        rw [← hse] at hrd
        have hcall := right_any s A' k c' wr hrd (by simp only [maxLen]; omega)
        have HC := Lib.hid hcall
        have HIS := Lib.hid hiS
        have HSV := Lib.hid hsv
        have HSE := Lib.hid hse
        have HSD := Lib.hid hsd
        obtain ⟨s0, _⟩ := HMS.out.get 0 _ rfl
        obtain ⟨s1, _⟩ := HMS.out.get 1 _ rfl
        obtain ⟨s2, _⟩ := HMS.out.get 2 _ rfl
        have hls := HMS.out.at_.lt
        clear hcall hiS hsv hse hsd hs e0 e2 hrd hlt
        go_wp2_with fail
        rw [HSV.out]
        refine HC.out.mono ?_
        rintro e w8 ⟨rfl, hb8⟩
        rw [← HSV.out]
        obtain ⟨q0, r0⟩ := (HMR.out.keep hb8).get 0 _ rfl
        obtain ⟨q1, r1⟩ := (HMR.out.keep hb8).get 1 _ rfl
        obtain ⟨q2, r2⟩ := (HMR.out.keep hb8).get 2 _ rfl
        have B8 := Lib.hid (HB.out.trans (hb8.mono HB.out.size))
        cases hr : rightB s
        · have hno : isShelf p = false := by rw [HIS.out, hr]; rfl
          have HNO := Lib.hid hno
          clear hno hr hb8 s0 s1 s2
          go_wp2_with fail
          refine bodyPost_ret (v := .tuple #[sz, .int .i64 40]) (by simp [results, Try.results11, go_sem, sz, q0, q1, q2]) rfl (.inr ⟨HNO.out, rfl, ?_⟩)
          exact below_set3 B8.out (Nat.le_refl _) _ _ _
        · have P8 := Lib.hid (HPR.out.keep hb8)
          have MS8 := HMS.out.keep hb8
          obtain ⟨p1, _⟩ := P8.out.pen.get 1 _ rfl
          obtain ⟨s0, _⟩ := MS8.get 0 _ rfl
          obtain ⟨s1, _⟩ := MS8.get 1 _ rfl
          obtain ⟨s2, _⟩ := MS8.get 2 _ rfl
          have HO8 := Lib.hid (own_keep HO.out hb8)
          have i1 : (0 : Int) ≤ (6 : Int) + 12 * (k : Int) := by omega
          have i2 : (6 : Int) + 12 * (k : Int) ≤ 123 := by omega
          have HRT := Lib.hid hr
          clear hb8 hr MS8
          have hm := P8.out.mem.sub (6 + 12 * k) (123 - (6 + 12 * k)) (by omega)
          rw [Nat.zero_add, List.take_of_length_le (by simp; have := HL'.out; omega)] at hm
          have HRD := Lib.hid hm.reads
          clear hm
          go_wp2_with fail
          refine (cf_any _ _ _ (b.drop (6 + 12 * k)) _ HRD.out (by simp only [maxLen]; omega)).mono ?_
          rintro e w' ⟨rfl, rfl⟩
          have HE : Hid (DecS p w (.returned (.tuple #[.agg #[.int .u8 (x0 : Int), .int .u32 (x2 : Int), .slice A' k c'], .int .i64 0])) (((w8.setCell ⟨w.heap.size, 0, none⟩ (.int .u8 (x0 : Int))).setCell ⟨w.heap.size, 1, none⟩ (.int .u32 (x2 : Int))).setCell ⟨w.heap.size, 2, none⟩ (.slice A' k c')) ∨ (b.drop (6 + 12 * k)).any (· != 0) = true) := Lib.hid (by
            cases hz : (b.drop (6 + 12 * k)).any (· != 0)
            · refine .inl (.inl ⟨by rw [HIS.out, HRT.out, hz]; rfl, .slice A' k c', W7.heap.size, ?_, Nat.le_of_lt LZ.out.2.2.2, ?_, below_set3 B8.out (Nat.le_refl _) _ _ _⟩)
              · rw [HSV.out, ← HSD.out]; rfl
              · rw [← HSD.out, HSE.out, entsOf_length]
                refine own_only (P := w.heap.size) (g := w.heap.size) HO8.out ?_ LZ.out.2.2.2 LZ.out.2.2.2
                exact ((Only.set _ _ _ _ _).trans (Only.set _ _ _ _ _)).trans (Only.set _ _ _ _ _)
            · exact .inr rfl)
          cases hz : (b.drop (6 + 12 * k)).any (· != 0)
          · have HZ := Lib.hid hz
            clear hz
            go_wp2_with fail
            refine bodyPost_ret (v := .tuple #[.agg #[.int .u8 (x0 : Int), .int .u32 (x2 : Int), .slice A' k c'], .int .i64 0]) (by simp [results, Try.results11, go_sem, q0, q1, q2]) rfl ?_
            rcases HE.out with h | h
            · exact h
            · rw [HZ.out] at h; cases h
          · have hno : isShelf p = false := by rw [HIS.out, HRT.out, hz]; rfl
            have HNO := Lib.hid hno
            clear hno hz
            go_wp2_with fail
            refine bodyPost_ret (v := .tuple #[sz, .int .i64 40]) (by simp [results, Try.results11, go_sem, sz, q0, q1, q2]) rfl (.inr ⟨HNO.out, rfl, ?_⟩)
            exact below_set3 B8.out (Nat.le_refl _) _ _ _
  · have h9i : (9 : Int) < (x1 : Int) := by omega
    have hno : isShelf p = false := by
      cases hi : isShelf p
      · rfl
      · unfold isShelf at hi
        simp only [Bool.and_eq_true, decide_eq_true_eq] at hi
        have := HMY.out
        omega
    have HNO := Lib.hid hno
    obtain ⟨a0, f0⟩ := M7.out.get 0 _ rfl
    obtain ⟨a1, f1⟩ := M7.out.get 1 _ rfl
    obtain ⟨a2, f2⟩ := M7.out.get 2 _ rfl
    clear hno h9
    go_wp2_with fail
    refine bodyPost_ret (v := .tuple #[sz, .int .i64 40]) (by simp [results, Try.results11, go_sem, sz, a0, a1, a2]) rfl (.inr ⟨HNO.out, rfl, ?_⟩)
    exact below_set3 B7.out (Nat.le_refl _) _ _ _

theorem decode_any (A : Option Addr) (n c : Nat) (p : List UInt8) (w : World) (h : Reads8 w A n p) (hn : n ≤ maxLen) (hnc : n ≤ c) :
    Calls Try.prog 11 #[.slice A n c] w fun e w' => DecS p w e w' := by
  cases hp : isPage p
  · exact (decode_none A n c p w h hn hnc hp).mono fun e w' ⟨h1, h2⟩ => .inr ⟨by unfold isShelf; rw [hp]; rfl, h1, h2⟩
  · by_cases hk : p.headD 0 = 3
    · exact decode_page A n c p w h hn hnc hp hk
    · refine (decode_kind A n c p w h hn hnc hp hk).mono fun e w' ⟨h1, h2⟩ => .inr ⟨?_, h1, h2⟩
      cases hi : isShelf p
      · rfl
      · exact absurd (isShelf_head p hi) hk

end Go.Proofs.Ytcljobkdihbflaa
