/-
  dir.Right.
-/
import Derived.Test.YtlkmcjjdjbdihaaDrB
import Derived.Deep.Cut
import Derived.OwnWalk
namespace Go.Proofs.Ytlkmcjjdjbdihaa
open Go.RowKit Go.Maps
set_option linter.unusedVariables false
attribute [local go_sem ↓] Go.wp_at_zero Go.wp_at_succ

/-- A directory's value. -/
def dval (d : Dir) (A : Option Addr) (n c : Nat) : Value := .agg #[.int .u8 (d.depth.toNat : Int), .slice A n c]
theorem dval_eq (d : Dir) (A : Option Addr) (n c : Nat) : Value.agg #[.int .u8 (d.depth.toNat : Int), .slice A n c] = dval d A n c := rfl

/-- A variable that holds a directory. -/
structure BoxD (w : World) (b : Nat) (d : Dir) (A : Option Addr) (n c : Nat) : Prop where
  mem : MemC w b 0 [.int .u8 (d.depth.toNat : Int), .slice A n c]
  rd : ReadsW w A n d.slots
theorem BoxD.keep {w w' : World} {b n c : Nat} {d : Dir} {A : Option Addr} (h : BoxD w b d A n c) (hb : Below w.heap.size w w') : BoxD w' b d A n c := ⟨h.mem.keep hb, h.rd.keep hb⟩
theorem BoxD.new (w : World) (d : Dir) (A : Option Addr) (n c : Nat) (h : ReadsW w A n d.slots) : BoxD (w.alloc (.cells #[.int .u8 (d.depth.toNat : Int), .slice A n c] 24)) w.heap.size d A n c :=
  ⟨MemC.new w [.int .u8 (d.depth.toNat : Int), .slice A n c] 24, h.keep ((Below.refl _ w).alloc (Nat.le_refl _) _)⟩
theorem BoxD.cells {w : World} {b n c : Nat} {d : Dir} {A : Option Addr} (h : BoxD w b d A n c) : w.cell? ⟨b, 0, none⟩ = some (.int .u8 (d.depth.toNat : Int)) ∧ w.cell? ⟨b, 1, none⟩ = some (.slice A n c) :=
  ⟨(h.mem.get 0 _ rfl).1, (h.mem.get 1 _ rfl).1⟩

theorem ownsMap_same {H : Type} {w w' : World} {P : Program} {k : TypeId} {R : Value → Option (DataW H × List MemPlace)} {b n : Nat} {D : DataW H} (h : w.ownsMap P k R b n D) (e : w'.heap[b]? = w.heap[b]?) : w'.ownsMap P k R b n D := by
  obtain ⟨es, clock, hb, r⟩ := h
  exact ⟨es, clock, e.trans hb, r⟩

theorem MemC.grown {W wr : World} {M P : Nat} {xs : List Value} (h : MemC W P 0 xs) (hg : W.grownBy wr (some M)) (hP : P ≠ M) : MemC wr P 0 xs := by
  have e := hg.block P h.at_.lt (by simpa using hP)
  refine ⟨⟨Nat.lt_of_lt_of_le h.at_.lt hg.size, fun j hj => (World.cell?_of_block (w := W) (a := ⟨P, 0 + j, none⟩) e).trans (h.at_.cell j hj)⟩, fun j hj => ?_⟩
  have := h.free j hj
  simp only [World.frozen?, e] at this ⊢
  exact this
theorem ReadsR.grown {W wr : World} {M n : Nat} {A : Option Addr} {l : List Run} (h : ReadsR W A n l) (hg : W.grownBy wr (some M)) (hA : ∀ a, A = some a → a.block ≠ M) : ReadsR wr A n l :=
  ⟨h.1, fun h0 => by
    obtain ⟨b, o, e, hc⟩ := h.2 h0
    have hne := hA _ e
    exact ⟨b, o, e, Nat.lt_of_lt_of_le hc.lt hg.size, fun j hj => (World.cell?_of_block (w := W) (a := ⟨b, o + j, none⟩) (hg.block b hc.lt (by simpa using hne))).trans (hc.cell j hj)⟩⟩
theorem grown_below {X Y : World} (h : Below X.heap.size X Y) (row : Option Nat) : X.grownBy Y row := ⟨h.os, h.tape, h.output, h.size, fun k hk _ => h.block k hk⟩
theorem grown_refl (X : World) (row : Option Nat) : X.grownBy X row := ⟨rfl, rfl, rfl, Nat.le_refl _, fun _ _ _ => rfl⟩

theorem law16 : Keyed Try.prog 26 := int_keyed Try.underlying26
theorem zeroInt (w : World) : (zeroValue 3).run Try.prog w = .ok (.int .i64 0) w := by kernel_rfl

/-- How many of the first runs are of a block. -/
def seenN (l : List UInt16) (rs : List Run) (j : Nat) (b : UInt16) : Nat := ((rs.take j).filter (fun r => at_ l r.1 == b)).length
theorem seenN_zero (l : List UInt16) (rs : List Run) (b : UInt16) : seenN l rs 0 b = 0 := rfl
theorem seenN_succ (l : List UInt16) (rs : List Run) (j : Nat) (b : UInt16) (hj : j < rs.length) : seenN l rs (j + 1) b = seenN l rs j b + (if at_ l (rs.getD j (0, 0)).1 = b then 1 else 0) := by
  unfold seenN
  rw [List.take_succ_eq_append_getElem hj, List.filter_append, List.length_append, List.getD_eq_getElem?_getD, List.getElem?_eq_getElem hj]
  congr 1
  show (List.filter (fun r => at_ l r.1 == b) [rs[j]]).length = if at_ l (rs[j]).1 = b then 1 else 0
  by_cases h : at_ l rs[j].1 = b
  · rw [if_pos h]; simp only [List.filter_cons, List.filter_nil, beq_iff_eq.2 h]; rfl
  · rw [if_neg h]; simp only [List.filter_cons, List.filter_nil, beq_eq_false_iff_ne.2 h]; rfl
theorem seenN_none {l : List UInt16} {rs : List Run} {j : Nat} {b : UInt16} : (seenN l rs j b == 0) = !(rs.take j).any (fun r => at_ l r.1 == b) := by
  unfold seenN
  rw [Bool.eq_iff_iff, beq_iff_eq, List.length_eq_zero_iff, List.filter_eq_nil_iff]
  simp only [Bool.not_eq_true', List.any_eq_false]

/-- What the map says behind j runs. -/
def Seen {H : Type} (l : List UInt16) (rs : List Run) (j : Nat) (D : DataW H) : Prop := IsMap D ∧ ∀ b : UInt16, D.atKey (.int .u16 (b.toNat : Int)) (.lit (.int .i64 0)) = .lit (.int .i64 (seenN l rs j b : Int))
theorem Seen.start {H : Type} (l : List UInt16) (rs : List Run) : Seen (H := H) l rs 0 (.map []) := ⟨isMap_empty, fun b => rfl⟩
theorem Seen.step {H : Type} {l : List UInt16} {rs : List Run} {j : Nat} {D : DataW H} (h : Seen l rs j D) (hj : j < rs.length) (b : UInt16) (hb : b = at_ l (rs.getD j (0, 0)).1) :
    Seen l rs (j + 1) (D.put (.int .u16 (b.toNat : Int)) (.lit (.int .i64 ((seenN l rs j b : Int) + 1)))) := by
  refine ⟨h.1.put _ _, fun b' => ?_⟩
  rw [seenN_succ _ _ _ _ hj, ← hb]
  by_cases e : b = b'
  · subst e
    rw [atKey_put_same h.1 (show WideAt.IsKeyLit (.int .u16 (b.toNat : Int)) from trivial), if_pos rfl]
    rfl
  · rw [atKey_put_other (fun e2 => e ?_), h.2 b', if_neg e]
    · rfl
    · injection e2 with _ e3
      exact UInt16.toNat_inj.1 (by omega)

theorem seen_is {H : Type} {l : List UInt16} {rs : List Run} {j : Nat} {D : DataW H} (h : Seen l rs j D) {x : UInt16} {c : Int} (hat : D.atKey (.int .u16 (x.toNat : Int)) (.lit (.int .i64 0)) = .lit (.int .i64 c)) (_ : True) : c = (seenN l rs j x : Int) := by
  rw [h.2 x] at hat
  injection hat with hat
  injection hat with _ hat
  exact hat.symm
theorem runs_many (l : List UInt16) (i : Nat) : (runsFrom l i).length ≤ l.length - i := by
  induction i using runsFrom.induct l with
  | case1 i h ih =>
    rw [runsFrom_yes h, List.length_cons]
    have := endFrom_ge l i (i + 1)
    omega
  | case2 i h => rw [runsFrom_no h]; simp
theorem shl1 {k : Nat} (hk : k ≤ 8) : wrap64 ((2 : Int) ^ k) = ((2 ^ k : Nat) : Int) := by
  have : k = 0 ∨ k = 1 ∨ k = 2 ∨ k = 3 ∨ k = 4 ∨ k = 5 ∨ k = 6 ∨ k = 7 ∨ k = 8 := by omega
  rcases this with rfl | rfl | rfl | rfl | rfl | rfl | rfl | rfl | rfl <;> decide +kernel

set_option maxHeartbeats 1000000 in
theorem right_pre (d : Dir) (A : Option Addr) (n c : Nat) (w : World) (hl : d.slots.length = n) (hn : n ≤ maxLen) (hp : ¬ (d.depth.toNat ≤ 8 ∧ n = 2 ^ d.depth.toNat)) :
    Calls Try.prog 17 #[dval d A n c] w fun e w' => e = .returned (.bool (rightB d)) ∧ Below w.heap.size w w' := by
  have hf : rightB d = false := by
    unfold rightB
    by_cases h1 : d.depth.toNat ≤ 8
    · rw [decide_eq_true h1, decide_eq_false (fun h2 => hp ⟨h1, by omega⟩)]; rfl
    · rw [decide_eq_false h1]; rfl
  rw [hf]
  unfold dval
  unfold maxLen at hn
  clear hf hl
  generalize d.depth.toNat = k at *
  by_cases h1 : k ≤ 8
  · have h1i : ¬ (8 : Int) < (k : Int) := by omega
    have h2 : n ≠ 2 ^ k := fun e => hp ⟨h1, e⟩
    have hne : ((n : Int) != wrap64 ((2 : Int) ^ k)) = true := by
      rw [shl1 h1]
      simp only [bne_iff_ne, ne_eq]
      intro e
      exact h2 (by exact_mod_cast e)
    clear hp h2
    go_enter Try.func17, Try.ntmps17
    go_wp2
    go_step3
    go_wp2
    rw [Exit.noGoto_ret]
    go_ret
    exact ⟨rfl, (Below.refl _ _).alloc (Nat.le_refl _) _⟩
  · have h1i : (8 : Int) < (k : Int) := by omega
    clear hp
    go_enter Try.func17, Try.ntmps17
    go_wp2
    go_step3
    go_wp2
    rw [Exit.noGoto_ret]
    go_ret
    exact ⟨rfl, (Below.refl _ _).alloc (Nat.le_refl _) _⟩

set_option maxHeartbeats 4000000 in
set_option maxRecDepth 100000 in
theorem right_in (d : Dir) (A : Option Addr) (n c : Nat) (w : World) (h : ReadsW w A n d.slots) (h8 : d.depth.toNat ≤ 8) (hn : n = 2 ^ d.depth.toNat) :
    Calls Try.prog 17 #[dval d A n c] w fun e w' => e = .returned (.bool (rightB d)) ∧ Below w.heap.size w w' := by
  have HL := Lib.hid h.1
  have er : rightB d = goodUpto d.slots (runsFrom d.slots 0) (runsFrom d.slots 0).length := by
    unfold rightB
    rw [decide_eq_true h8, HL.out, decide_eq_true hn]
    rfl
  rw [er]
  clear er
  have hn256 : n ≤ 256 := by rw [hn]; exact pow8 h8
  have HR := Lib.hid h; clear h
  obtain ⟨W0, hW0⟩ : ∃ W0 : World, W0 = (w.alloc (.cells #[.int .u8 (d.depth.toNat : Int), .slice A n c] 24)).alloc (.map #[] 0) := ⟨_, rfl⟩
  have b1 : Below w.heap.size w (w.alloc (.cells #[.int .u8 (d.depth.toNat : Int), .slice A n c] 24)) := (Below.refl _ w).alloc (Nat.le_refl _) _
  have b2 : Below (w.heap.size + 1) (w.alloc (.cells #[.int .u8 (d.depth.toNat : Int), .slice A n c] 24)) W0 := by rw [hW0]; exact (Below.refl _ _).alloc (by simp) _
  have S0 : Hid (BoxD W0 w.heap.size d A n c) := Lib.hid ((BoxD.new w d A n c HR.out).keep (by simpa using b2))
  have B0 := Lib.hid (b1.trans (b2.mono (by omega)))
  have M0 : Hid (∀ H : Type, W0.ownsMap Try.prog 26 (plainElem (H := H) Try.prog 3) (w.heap.size + 1) 0 (.map [])) := Lib.hid (fun H => by
    have := World.ownsMap_made (H := H) (w.alloc (.cells #[.int .u8 (d.depth.toNat : Int), .slice A n c] 24)) Try.prog 26 (plainElem Try.prog 3)
    rw [hW0]
    simpa using this)
  have HW := Lib.hid hW0; clear hW0 b1 b2
  have hmm := @run_makeMap Try.prog
  have hw : ((n : Int) != wrap64 ((2 : Int) ^ d.depth.toNat)) = false := by
    rw [shl1 h8, hn]
    simp
  have h8i : ¬ (8 : Int) < (d.depth.toNat : Int) := by omega
  unfold dval
  generalize hdk : d.depth.toNat = k at *
  clear hn h8
  go_enter Try.func17, Try.ntmps17
  go_wp2
  go_step3
  go_wp2_with fail
  go_step3
  go_wp2_with fail
  rw [← HW.out]
  clear HW
  refine (runs_any A n c d.slots _ S0.out.rd hn256).mono ?_
  rintro e w1 ⟨v, rfl, hown, hb⟩
  obtain ⟨A2, c2, rfl, hrd, _, _⟩ := own_readsR hown
  have hRE := runs_each d.slots 0
  obtain ⟨rs, hrs⟩ : ∃ rs, rs = runsFrom d.slots 0 := ⟨_, rfl⟩
  rw [← hrs] at hrd hown hRE ⊢
  obtain ⟨m, hm⟩ : ∃ m, m = rs.length := ⟨_, rfl⟩
  rw [← hm] at hrd hown ⊢
  have HM := Lib.hid hm
  have HRE := Lib.hid hRE
  have HGU : Hid (goodUpto d.slots (runsFrom d.slots 0) (runsFrom d.slots 0).length = goodUpto d.slots rs m) := Lib.hid (by rw [← hrs, ← hm])
  have HA2 : Hid (∀ a, A2 = some a → a.block ≠ w.heap.size + 1) := Lib.hid (fun a ha => by
    subst ha
    have h1 := own_base hown a.block rfl
    have h2 := (M0.out Unit).lt
    omega)
  have HRD := Lib.hid hrd
  have B1 := Lib.hid (B0.out.trans (hb.mono B0.out.size))
  have S1 := Lib.hid (S0.out.mem.keep hb)
  have M1 := Lib.hid (ownsMap_same (M0.out Unit) (hb.block _ (M0.out Unit).lt))
  have Z1 : Hid (w.heap.size + 1 < w1.heap.size) := Lib.hid (Nat.lt_of_lt_of_le (M0.out Unit).lt hb.size)
  have hmn : m ≤ 256 := by
    rw [hm, hrs]
    exact Nat.le_trans (runs_many d.slots 0) (by rw [HL.out]; omega)
  clear hb hown hrd hrs hm hRE S0 B0 M0
  go_wp2_with fail
  go_loopw [24] (fun i wr => ∃ (j : Nat) (D : DataW Unit), j ≤ m ∧ i = .int .i64 j ∧ goodUpto d.slots rs j = true ∧ wr.ownsMap Try.prog 26 (plainElem Try.prog 3) (w.heap.size + 1) j D ∧ Seen d.slots rs j D ∧ Below w.heap.size w wr ∧ w1.grownBy wr (some (w.heap.size + 1))) (fun i _ => m - (intOf i).toNat)
  case atStart => exact ⟨0, _, Nat.zero_le _, rfl, rfl, M1.out, Seen.start _ _, B1.out, grown_refl _ _⟩
  case round =>
    obtain ⟨j, D, hj, rfl, hgood, hmap, hseen, hb, hg⟩ := hrel
    have HG := Lib.hid hgood; clear hgood
    have HMP := Lib.hid hmap; clear hmap
    have HSN := Lib.hid hseen; clear hseen
    have HB := Lib.hid hb; clear hb
    have HGR := Lib.hid hg; clear hg
    have HS := Lib.hid (S1.out.grown HGR.out (by omega))
    by_cases hlt : j < m
    · obtain ⟨b, o, rfl, hbl, c0, c1⟩ := (HRD.out.grown HGR.out HA2.out).getD (k := j) hlt
      obtain ⟨r, hr⟩ : ∃ r, r = rs.getD j (0, 0) := ⟨_, rfl⟩
      have hmem : r ∈ rs := by rw [hr, List.getD_eq_getElem?_getD, List.getElem?_eq_getElem (by rw [← HM.out]; exact hlt)]; exact List.getElem_mem _
      obtain ⟨_, r12, r2n, _⟩ := HRE.out r hmem
      rw [HL.out] at r2n
      rw [← hr] at c0 c1
      have HRJ := Lib.hid hr; clear hr hmem
      obtain ⟨bs, os_, rfl, hbs, cs⟩ := (HR.out.keep HB.out).getD (k := r.1) (by omega)
      obtain ⟨x, hx⟩ : ∃ x, x = at_ d.slots r.1 := ⟨_, rfl⟩
      rw [← hx] at cs
      have HX := Lib.hid hx; clear hx
      obtain ⟨s0, _⟩ := HS.out.get 0 _ rfl
      obtain ⟨s1, _⟩ := HS.out.get 1 _ rfl
      have hls := HS.out.at_.lt
      obtain ⟨r1, r2⟩ := r
      dsimp only at *
      have i1 : (r1 : Int) < (n : Int) := by omega
      have i0 : (0 : Int) ≤ (r1 : Int) := by omega
      have ji : (j : Int) < (m : Int) := by omega
      have j0 : (0 : Int) ≤ (j : Int) := by omega
      obtain ⟨W2, hW2⟩ : ∃ W2 : World, W2 = wr.alloc (.cells #[.int .i64 (r1 : Int), .int .i64 (r2 : Int)] 56) := ⟨_, rfl⟩
      have b2 : Below wr.heap.size wr W2 := by rw [hW2]; exact (Below.refl _ wr).alloc (Nat.le_refl _) _
      have HMP2 := Lib.hid (ownsMap_same HMP.out (b2.block _ HMP.out.lt))
      have HB2 := Lib.hid (HB.out.trans (b2.mono HB.out.size))
      have HGR2 := Lib.hid ((World.grownBy.trans HGR.out (grown_below b2 _)))
      have HR2 : Hid (MemC W2 wr.heap.size 0 [.int .i64 (r1 : Int), .int .i64 (r2 : Int)]) := Lib.hid (by rw [hW2]; exact MemC.new wr [.int .i64 (r1 : Int), .int .i64 (r2 : Int)] 56)
      have Z2 : Hid (w.heap.size + 1 < wr.heap.size) := Lib.hid HMP.out.lt
      have HW2 := Lib.hid hW2
      have x16 := UInt16.toNat_lt x
      have hkey : keyOf Try.prog 26 (.int .u16 (x.toNat : Int)) = some (.int .u16 (x.toNat : Int)) := keyOf_int_mk Try.underlying26 (by simp [Lit.wf, IntKind.min, IntKind.max, IntKind.signed, IntKind.bits]; omega)
      have HKY := Lib.hid hkey
      clear b2 hW2 hkey x16
      go_upto_region 8 with fail
      rw [← HW2.out]
      clear HW2 c0 c1 cs s0 s1
      go_upto_region 9 with (first
        | (at_lookup; refine wpList_lookup_own_int _ rfl _ _ 61 rfl 26 3 .i64 law16 Try.underlying61 Try.underlying3 (zeroInt _) (w.heap.size + 1) j D rfl HMP2.out _ _ rfl HKY.out ?_; intro cn hat hwc)
        | (at_mapUpdate; refine wpList_mapUpdate_own _ rfl _ _ _ 61 rfl 26 3 law16 Try.underlying61 _ (w.heap.size + 1) j D rfl HMP2.out (by simp only [maxLen]; omega) _ _ _ rfl rfl HKY.out _ [] (plainElem_int Try.underlying3 (wrap64_wf _)) ?_; intro w3 hown3 hgrow3))
      have hsj : seenN d.slots rs j x ≤ j := by
        unfold seenN
        refine Nat.le_trans (List.length_filter_le _ _) ?_
        simp
        omega
      have hcn : cn = (seenN d.slots rs j x : Int) := by
        have h1 := HSN.out.2 x
        rw [h1] at hat
        injection hat with hat
        injection hat with _ hat
        exact hat.symm
      have hw1 : wrap64 (cn + 1) = (seenN d.slots rs j x : Int) + 1 := by
        rw [hcn]
        simp only [wrap64]
        omega
      rw [hw1] at hown3
      have HS3 := Lib.hid (HSN.out.step (by rw [← HM.out]; exact hlt) x (by rw [HX.out, ← HRJ.out]))
      have H3 := Lib.hid hown3
      have HG3 := Lib.hid (HGR2.out.trans hgrow3)
      have HB3 := Lib.hid (HB2.out.grown hgrow3 HB2.out.size (fun q hq => by simp at hq; omega))
      have hrm := HR2.out.grown hgrow3 (by have := Z2.out; omega)
      obtain ⟨k0, _⟩ := hrm.get 0 _ rfl
      obtain ⟨k1, _⟩ := hrm.get 1 _ rfl
      have hga : goodAt d.slots rs j = ((seenN d.slots rs j x == 0) && (okb x && wholeB (r1, r2))) := by
        unfold goodAt
        rw [seenN_none, HX.out, ← HRJ.out]
      have HGA := Lib.hid hga
      clear hat hwc hown3 hgrow3 hrm hw1 hcn hga HMP2 HB2 HGR2 HR2 HSN
      have hfalse : goodAt d.slots rs j = false → goodUpto d.slots rs m = false := fun h => goodUpto_no hlt h
      have HFA := Lib.hid hfalse; clear hfalse
      have HSJ := Lib.hid hsj; clear hsj
      obtain ⟨z2, hz2⟩ : ∃ z2 : Int, z2 = (seenN d.slots rs (j + 1) x : Int) := ⟨_, rfl⟩
      have hz3 : z2 = (seenN d.slots rs j x : Int) + 1 := by
        rw [hz2, seenN_succ _ _ _ _ (by rw [← HM.out]; exact hlt), ← HRJ.out, if_pos HX.out.symm]
        rfl
      have HZ2 := Lib.hid hz2; clear hz2
      by_cases hz : seenN d.slots rs j x = 0
      · have HZ := Lib.hid hz
        have hn1 : (z2 == 1) = true := by rw [hz3, hz]; rfl
        clear hz hz3
        cases hok : okb x
        · have HOK := Lib.hid hok; clear hok
          go_wp2_with (first
            | (at_lookup; refine wpList_lookup_own_int _ rfl _ _ 61 rfl 26 3 .i64 law16 Try.underlying61 Try.underlying3 (zeroInt _) (w.heap.size + 1) (j + 1) _ rfl H3.out _ _ rfl HKY.out ?_; intro cn2 hat2 hwc2; have hc2 : cn2 = z2 := (seen_is HS3.out hat2 trivial).trans HZ2.out.symm; subst hc2; clear hat2 hwc2)
            | (go_at_call 34; refine (block_any x _).mono ?_; rintro e w' ⟨rfl, rfl⟩; rw [HOK.out])
            | (go_at_call 35; refine (whole_any (r1, r2) _ r12 (by omega)).mono ?_; rintro e w4 ⟨rfl, hb4⟩; rw [HWH.out]; have HB4 := Lib.hid hb4; clear hb4))
          all_goals
            rw [Exit.noGoto_ret]
            go_ret
            exact ⟨by rw [HGU.out, HFA.out (by rw [HGA.out, HOK.out]; simp)]; rfl, HB3.out⟩
        · have HOK := Lib.hid hok; clear hok
          cases hwh : wholeB (r1, r2)
          · have HWH := Lib.hid hwh; clear hwh
            go_wp2_with (first
            | (at_lookup; refine wpList_lookup_own_int _ rfl _ _ 61 rfl 26 3 .i64 law16 Try.underlying61 Try.underlying3 (zeroInt _) (w.heap.size + 1) (j + 1) _ rfl H3.out _ _ rfl HKY.out ?_; intro cn2 hat2 hwc2; have hc2 : cn2 = z2 := (seen_is HS3.out hat2 trivial).trans HZ2.out.symm; subst hc2; clear hat2 hwc2)
            | (go_at_call 34; refine (block_any x _).mono ?_; rintro e w' ⟨rfl, rfl⟩; rw [HOK.out])
            | (go_at_call 35; refine (whole_any (r1, r2) _ r12 (by omega)).mono ?_; rintro e w4 ⟨rfl, hb4⟩; rw [HWH.out]; have HB4 := Lib.hid hb4; clear hb4))
            all_goals
              rw [Exit.noGoto_ret]
              go_ret
              exact ⟨by rw [HGU.out, HFA.out (by rw [HGA.out, HOK.out, HWH.out]; simp)]; rfl, HB3.out.trans (HB4.out.mono HB3.out.size)⟩
          · have HWH := Lib.hid hwh; clear hwh
            go_wp2_with (first
            | (at_lookup; refine wpList_lookup_own_int _ rfl _ _ 61 rfl 26 3 .i64 law16 Try.underlying61 Try.underlying3 (zeroInt _) (w.heap.size + 1) (j + 1) _ rfl H3.out _ _ rfl HKY.out ?_; intro cn2 hat2 hwc2; have hc2 : cn2 = z2 := (seen_is HS3.out hat2 trivial).trans HZ2.out.symm; subst hc2; clear hat2 hwc2)
            | (go_at_call 34; refine (block_any x _).mono ?_; rintro e w' ⟨rfl, rfl⟩; rw [HOK.out])
            | (go_at_call 35; refine (whole_any (r1, r2) _ r12 (by omega)).mono ?_; rintro e w4 ⟨rfl, hb4⟩; rw [HWH.out]; have HB4 := Lib.hid hb4; clear hb4))
            all_goals
              have B5 := HB3.out.trans (HB4.out.mono HB3.out.size)
              have G5 := HG3.out.trans (grown_below HB4.out _)
              have M5 := ownsMap_same H3.out (HB4.out.block _ H3.out.lt)
              have hg5 : goodUpto d.slots rs (j + 1) = true := by rw [goodUpto_succ, HG.out, HGA.out, HOK.out, HWH.out, HZ.out]; rfl
              have R5 := Lib.hid (And.intro B5 (And.intro G5 (And.intro M5 hg5)))
              clear B5 G5 M5 hg5
              go_roundw
              case rel => exact ⟨j + 1, _, by omega, by go_num, R5.out.2.2.2, R5.out.2.2.1, HS3.out, R5.out.1, R5.out.2.1⟩
              case measure => simp [intOf]; omega
      · have HZ : Hid ((seenN d.slots rs j x == 0) = false) := Lib.hid (by simpa using hz)
        have hn1 : (z2 == 1) = false := by rw [hz3]; exact beq_eq_false_iff_ne.2 (by omega)
        clear hz hz3
        go_wp2_with (first
            | (at_lookup; refine wpList_lookup_own_int _ rfl _ _ 61 rfl 26 3 .i64 law16 Try.underlying61 Try.underlying3 (zeroInt _) (w.heap.size + 1) (j + 1) _ rfl H3.out _ _ rfl HKY.out ?_; intro cn2 hat2 hwc2; have hc2 : cn2 = z2 := (seen_is HS3.out hat2 trivial).trans HZ2.out.symm; subst hc2; clear hat2 hwc2)
            | (go_at_call 34; refine (block_any x _).mono ?_; rintro e w' ⟨rfl, rfl⟩; rw [HOK.out])
            | (go_at_call 35; refine (whole_any (r1, r2) _ r12 (by omega)).mono ?_; rintro e w4 ⟨rfl, hb4⟩; rw [HWH.out]; have HB4 := Lib.hid hb4; clear hb4))
        all_goals
          rw [Exit.noGoto_ret]
          go_ret
          exact ⟨by rw [HGU.out, HFA.out (by rw [HGA.out, HZ.out]; rfl)]; rfl, HB3.out⟩
    · obtain rfl : j = m := by omega
      go_wp2_with fail
      rw [Exit.noGoto_ret]
      go_ret
      exact ⟨by rw [HGU.out, HG.out]; rfl, HB.out⟩

theorem right_any (d : Dir) (A : Option Addr) (n c : Nat) (w : World) (h : ReadsW w A n d.slots) (hn : n ≤ maxLen) :
    Calls Try.prog 17 #[dval d A n c] w fun e w' => e = .returned (.bool (rightB d)) ∧ Below w.heap.size w w' := by
  by_cases hp : d.depth.toNat ≤ 8 ∧ n = 2 ^ d.depth.toNat
  · exact right_in d A n c w h hp.1 hp.2
  · exact right_pre d A n c w h.1 hn hp

end Go.Proofs.Ytlkmcjjdjbdihaa
