/-
  ShelfHalves: the walk.
-/
import Derived.Test.YtcljobkdihbflaaShLB
import Derived.Test.YtcljobkdihbflaaShHp
import Derived.Deep.Cut
import Derived.Deep.CutRange
namespace Go.Proofs.Ytcljobkdihbflaa
open Go.RowKit
set_option linter.unusedVariables false
set_option linter.unusedSimpArgs false
attribute [local go_sem ↓] Go.wp_at_zero Go.wp_at_succ

/-- Three variables of one value. -/
theorem three (w : World) (a b c : Value) (p : Nat) (h1 : w.heap.size ≤ p) (h2 : p ≤ w.heap.size + 2) : MemC (((w.alloc (.cells #[a, b, c] 25)).alloc (.cells #[a, b, c] 25)).alloc (.cells #[a, b, c] 25)).drew p 0 [a, b, c] := by
  have hm : ∀ X : World, MemC (X.alloc (.cells #[a, b, c] 25)) X.heap.size 0 [a, b, c] := fun X => MemC.new X [a, b, c] 25
  have kp : ∀ (X : World) (o : Obj), Below X.heap.size X (X.alloc o) := fun X o => (Below.refl _ X).alloc (Nat.le_refl _) o
  have e : p = w.heap.size ∨ p = w.heap.size + 1 ∨ p = w.heap.size + 2 := by omega
  rcases e with rfl | rfl | rfl
  · exact ((((hm w).keep (kp _ _)).keep (kp _ _))).drew
  · have := hm (w.alloc (.cells #[a, b, c] 25))
    rw [World.size_alloc] at this
    exact (this.keep (kp _ _)).drew
  · have := hm ((w.alloc (.cells #[a, b, c] 25)).alloc (.cells #[a, b, c] 25))
    rw [World.size_alloc, World.size_alloc] at this
    exact this.drew

theorem Only.swap {w w' : World} {P g : Nat} (h : Only w w' P g) : Only w w' g P := ⟨h.os, h.tape, h.output, h.size, fun k h1 h2 => h.other k h2 h1⟩
theorem Only.of_drew {w w' : World} {P g : Nat} (h : Only w.drew w' P g) : Only w w' P g := ⟨h.os, h.tape, h.output, h.size, h.other⟩
theorem ecells_drop : ∀ (l : List Ent) (k : Nat), ecells (l.drop k) = (ecells l).drop (k * 2)
  | l, 0 => by simp
  | [], k + 1 => by simp [ecells]
  | x :: l, k + 1 => by
    rw [List.drop_succ_cons, ecells_drop l k, ecells_cons, show (k + 1) * 2 = k * 2 + 2 by omega]
    rfl
theorem ecells_take : ∀ (l : List Ent) (k : Nat), ecells (l.take k) = (ecells l).take (k * 2)
  | l, 0 => by simp [ecells]
  | [], k + 1 => by simp [ecells]
  | x :: l, k + 1 => by
    rw [List.take_succ_cons, ecells_cons, ecells_take l k, ecells_cons, show (k + 1) * 2 = k * 2 + 2 by omega]
    rfl
theorem ReadsE.drop {w : World} {ad : Addr} {n k : Nat} {l : List Ent} (h : ReadsE w (some ad) n l) (hk : k ≤ n) : ReadsE w (some (ad.add (k * 2))) (n - k) (l.drop k) := by
  have hl := h.1
  have hcl := ecells_length l
  refine ⟨by simp; omega, fun h0 => ?_⟩
  rw [ecells_length] at h0
  obtain ⟨b, o, e, hc⟩ := h.2 (by simp at h0; omega)
  injection e with e
  subst e
  refine ⟨b, o + k * 2, by rw [Addr.add_lit'], hc.lt, fun j hj => ?_⟩
  have hj2 : k * 2 + j < (ecells l).length := by rw [ecells_drop] at hj; simp at hj; omega
  rw [Nat.add_assoc, hc.cell (k * 2 + j) hj2]
  simp only [ecells_drop, List.getElem_drop]
theorem ReadsE.take {w : World} {A : Option Addr} {n k : Nat} {l : List Ent} (h : ReadsE w A n l) (hk : k ≤ n) : ReadsE w A k (l.take k) := by
  have hl := h.1
  have hcl := ecells_length l
  refine ⟨by simp; omega, fun h0 => ?_⟩
  rw [ecells_length] at h0
  obtain ⟨b, o, e, hc⟩ := h.2 (by simp at h0; omega)
  refine ⟨b, o, e, hc.lt, fun j hj => ?_⟩
  have hj2 : j < (ecells l).length := by rw [ecells_take] at hj; simp at hj; omega
  rw [hc.cell j hj2]
  simp only [ecells_take, List.getElem_take]
theorem ReadsE.far {w w' : World} {A : Option Addr} {n P g : Nat} {l : List Ent} (h : ReadsE w A n l) (ho : Only w w' P g) {B : Nat} (hB : 0 < (ecells l).length → ∀ a, A = some a → a.block < B) (h1 : B ≤ P) (h2 : B ≤ g) : ReadsE w' A n l :=
  ⟨h.1, fun h0 => by
    obtain ⟨b, o, e, hc⟩ := h.2 h0
    have hb := hB h0 _ e
    have hb : b < B := hb
    exact ⟨b, o, e, by rw [ho.size]; exact hc.lt, fun j hj => (ho.cell (by omega) (by omega)).trans (hc.cell j hj)⟩⟩
theorem ReadsE.lt {w : World} {A : Option Addr} {n : Nat} {l : List Ent} (h : ReadsE w A n l) : 0 < (ecells l).length → ∀ a, A = some a → a.block < w.heap.size := fun h0 a ha => by
  obtain ⟨b, o, e, hc⟩ := h.2 h0
  rw [ha] at e
  injection e with e
  subst e
  exact hc.lt

set_option maxHeartbeats 8000000 in
set_option maxRecDepth 100000 in
theorem halves_in (s : Shelf) (A : Option Addr) (n c : Nat) (D : UInt8) (w : World) (h : ReadsE w A n s.ents) (hn : n ≤ 9) (hnc : n ≤ c) (hcm : c ≤ maxLen) (hA : (A = none ∧ n = 0 ∧ c = 0) ∨ ∃ a, A = some a) (hr : rightB s = true) :
    Calls Try.prog 3 #[sval s A n c, .int .u8 (D.toNat : Int)] w fun e w' => e = .returned (.bool true) ∧ Below w.heap.size w w' := by
  have HL := Lib.hid h.1
  have HLT := Lib.hid h.lt
  have HR := Lib.hid h; clear h
  have HF := Lib.hid hr; clear hr
  obtain ⟨W0, hW0⟩ : ∃ W0 : World, W0 = w.alloc (.cells #[.int .u8 (s.depth.toNat : Int), .int .u32 (s.next.toNat : Int), .slice A n c] 25) := ⟨_, rfl⟩
  have B0 : Hid (Below w.heap.size w W0) := Lib.hid (by rw [hW0]; exact (Below.refl _ w).alloc (Nat.le_refl _) _)
  have S0 : Hid (BoxS W0 w.heap.size s A n c) := Lib.hid (by rw [hW0]; exact BoxS.new w s A n c HR.out)
  have HW := Lib.hid hW0; clear hW0
  have hn20i : ¬ (20 : Int) < (n : Int) := by omega
  obtain ⟨a0, a1, a2⟩ := S0.out.cells
  unfold sval
  go_enter Try.func3, Try.ntmps3
  go_upto_region 1 with fail
  rw [← HW.out]
  clear HW
  go_wp2_with fail
  refine (right_any s A n c _ S0.out.rd (by simp only [maxLen]; omega)).mono ?_
  rintro e w1 ⟨rfl, hb⟩
  rw [HF.out]
  have B1 := Lib.hid (B0.out.trans (hb.mono B0.out.size))
  have S1 := Lib.hid (S0.out.keep hb)
  clear hb a0 a1 a2 S0 B0
  obtain ⟨a0, a1, a2⟩ := S1.out.cells
  have hD8 := UInt8.toNat_lt D
  obtain ⟨k, hk⟩ : ∃ k, k = D.toNat % (n + 1) := ⟨_, rfl⟩
  have hkn : k ≤ n := by rw [hk]; have := Nat.mod_lt D.toNat (show n + 1 > 0 by omega); omega
  have hki : (D.toNat : Int) % ((n : Int) + 1) = (k : Int) := by rw [hk]; simp
  have HK := Lib.hid hk; clear hk hD8
  have dn : (D.toNat : Int) < 256 := by have := UInt8.toNat_lt D; omega
  go_upto_region 4 with fail
  have hSall : ∀ w', Below w1.heap.size w1 w' → w'.cell? ⟨w.heap.size, 0, none⟩ = some (.int .u8 (s.depth.toNat : Int)) ∧ w'.cell? ⟨w.heap.size, 1, none⟩ = some (.int .u32 (s.next.toNat : Int)) ∧ w'.cell? ⟨w.heap.size, 2, none⟩ = some (.slice A n c) := fun w' hb => (S1.out.keep hb).cells
  have HS := Lib.hid hSall; clear hSall
  simp only [hki]
  clear hki
  go_cut [6, 7, 8] from 26 (fun s6 s7 s8 wx => ∃ pa pb pc : Nat, s6 = .pointer (some ⟨pa, 0, none⟩) ∧ s7 = .pointer (some ⟨pb, 0, none⟩) ∧ s8 = .pointer (some ⟨pc, 0, none⟩) ∧ w1.heap.size ≤ pa ∧ w1.heap.size ≤ pb ∧ w1.heap.size ≤ pc ∧ pa ≠ pb ∧ pa ≠ pc ∧ pb ≠ pc ∧
      MemC wx pa 0 [.int .u8 (s.depth.toNat : Int), .int .u32 (s.next.toNat : Int), .slice A n c] ∧ MemC wx pb 0 [.int .u8 (s.depth.toNat : Int), .int .u32 (s.next.toNat : Int), .slice A n c] ∧ MemC wx pc 0 [.int .u8 (s.depth.toNat : Int), .int .u32 (s.next.toNat : Int), .slice A n c] ∧ Below w1.heap.size w1 wx)
  case first =>
    go_region_held3 (fun w' => w'.cell? ⟨w.heap.size, 0, none⟩ = some (.int .u8 (s.depth.toNat : Int)) ∧ w'.cell? ⟨w.heap.size, 1, none⟩ = some (.int .u32 (s.next.toNat : Int)) ∧ w'.cell? ⟨w.heap.size, 2, none⟩ = some (.slice A n c))
      ((refine HS.out _ ?_; repeat' (first | exact Below.refl _ _ | refine Below.drew ?_ | refine Below.alloc ?_ (by first | (simp; done) | (simp; omega)) _ | refine Below.setCell ?_ (by first | (simp; done) | (simp; omega)) _))) (fail)
    all_goals
      clear HR HL HF S1 B1 HS HK
      go_wp2_with fail
      go_meet
      case rel =>
        exact ⟨_, _, _, rfl, rfl, rfl, by omega, by omega, by omega, by omega, by omega, by omega, three w1 _ _ _ _ (by omega) (by omega), three w1 _ _ _ _ (by omega) (by omega), three w1 _ _ _ _ (by omega) (by omega), ((((Below.refl _ w1).alloc (Nat.le_refl _) _).alloc (by simp) _).alloc (by simp; omega) _).drew⟩
  case rest =>
    generalize wc = V at *
    obtain ⟨pa, pb, pc, rfl, rfl, rfl, la, lb, lc, nab, nac, nbc, ma, mb, mc, hb⟩ := hcut
    have S2 := Lib.hid (S1.out.keep hb)
    have B2 := Lib.hid (B1.out.trans (hb.mono B1.out.size))
    have MA := Lib.hid ma
    have MB := Lib.hid mb
    have MC := Lib.hid mc
    have lw : w.heap.size < w1.heap.size := S1.out.mem.at_.lt
    have LW := Lib.hid lw
    have LA := Lib.hid (show w1.heap.size ≤ pa ∧ w1.heap.size ≤ pb ∧ w1.heap.size ≤ pc ∧ pa ≠ pb ∧ pa ≠ pc ∧ pb ≠ pc from ⟨la, lb, lc, nab, nac, nbc⟩)
    have nsa : w.heap.size ≠ pa := by omega
    have nsb : w.heap.size ≠ pb := by omega
    have nba : pb ≠ pa := nab.symm
    obtain ⟨pa2, fa2⟩ := ma.get 2 _ rfl
    obtain ⟨pb2, fb2⟩ := mb.get 2 _ rfl
    obtain ⟨_, _, a2'⟩ := S2.out.cells
    have hSall : ∀ w', Below w1.heap.size V w' → w'.cell? ⟨w.heap.size, 2, none⟩ = some (.slice A n c) := fun w' hb' => (hb'.cell (p := ⟨w.heap.size, 2, none⟩) lw).trans a2'
    have HS2 := Lib.hid hSall
    clear hb ma mb mc lw lc nac nbc hSall HS S1 B1 a0 a1 a2
    go_upto_region 5 with fail
    go_cut [] from 29 (fun wx => ∃ (A2 : Option Addr) (c2 : Nat), MemC wx pa 0 [.int .u8 (s.depth.toNat : Int), .int .u32 (s.next.toNat : Int), .slice A k c] ∧ MemC wx pb 0 [.int .u8 (s.depth.toNat : Int), .int .u32 (s.next.toNat : Int), .slice A2 (n - k) c2] ∧ ReadsE wx A2 (n - k) (s.ents.drop k) ∧ (0 < (ecells (s.ents.drop k)).length → ∀ a, A2 = some a → a.block < w1.heap.size) ∧ Only V wx pa pb)
    case first =>
      by_cases hkc : k = c
      · have hnk : n = k := by omega
        subst hkc
        subst hnk
        have i0 : (0 : Int) ≤ (n : Int) := by omega
        have i1 : ¬ (n : Int) < (n : Int) := by omega
        go_region_held3 (fun w' => w'.cell? ⟨w.heap.size, 2, none⟩ = some (.slice A n n))
          ((refine HS2.out _ ?_; repeat' (first | exact Below.refl _ _ | refine Below.drew ?_ | refine Below.setCell ?_ (by assumption) _))) (fail)
        go_wp2_with fail
        go_meet
        case rel =>
          have o1 := Only.set V.drew pa pb 2 (.slice A n n)
          have o2 := (Only.set (V.drew.setCell ⟨pa, 2, none⟩ (.slice A n n)) pb pa 2 (.slice A 0 0)).swap
          have oo := (o1.trans o2).of_drew
          have r2 : ReadsE ((V.drew.setCell ⟨pa, 2, none⟩ (.slice A n n)).setCell ⟨pb, 2, none⟩ (.slice A 0 0)) A (n - n) (s.ents.drop n) := by
            have e : s.ents.drop n = [] := List.drop_of_length_le (by have := HL.out; omega)
            rw [e, Nat.sub_self]
            exact ReadsE.nil _ _
          have hB2 : 0 < (ecells (s.ents.drop n)).length → ∀ a, A = some a → a.block < w1.heap.size := fun h0 => by
            have e : s.ents.drop n = [] := List.drop_of_length_le (by have := HL.out; omega)
            rw [e] at h0; simp [ecells] at h0
          exact ⟨A, 0, (MA.out.drew.setAt 2 (by simp) _).only (Only.set _ _ _ _ _) nab nab, by rw [Nat.sub_self]; exact ((MB.out.drew.only (Only.set _ pa pa _ _) nba nba).setAt 2 (by simp) _), r2, hB2, oo⟩
      · have hA2 : ∃ a, A = some a := by
          rcases hA with ⟨_, _, h⟩ | h
          · omega
          · exact h
        obtain ⟨ad, rfl⟩ := hA2
        have i0 : (0 : Int) ≤ (k : Int) := by omega
        have i1 : (k : Int) ≤ (n : Int) := by omega
        have i2 : (k : Int) < (c : Int) := by omega
        have i3 : (k : Int) ≤ (c : Int) := by omega
        have i4 : (n : Int) ≤ (c : Int) := by omega
        go_region_held3 (fun w' => w'.cell? ⟨w.heap.size, 2, none⟩ = some (.slice (some ad) n c))
          ((refine HS2.out _ ?_; repeat' (first | exact Below.refl _ _ | refine Below.drew ?_ | refine Below.setCell ?_ (by assumption) _))) (fail)
        go_wp2_with fail
        go_meet
        case rel =>
          have o1 := Only.set V.drew pa pb 2 (.slice (some ad) k c)
          have o2 := (Only.set (V.drew.setCell ⟨pa, 2, none⟩ (.slice (some ad) k c)) pb pa 2 (.slice (some (ad.add (k * 2))) (n - k) (c - k))).swap
          have oo := (o1.trans o2).of_drew
          have hB2 : 0 < (ecells (s.ents.drop k)).length → ∀ a, some (ad.add (k * 2)) = some a → a.block < w1.heap.size := (fun h0 a ha => by
            injection ha with ha
            subst ha
            have h1 : 0 < (ecells s.ents).length := by rw [ecells_length] at h0 ⊢; simp at h0; omega
            have := HLT.out h1 ad rfl
            have h3 : (ad.add (k * 2)).block = ad.block := by unfold Addr.add; split <;> rfl
            rw [h3]
            have := LW.out
            omega)
          have r2 := (S2.out.rd.drop (k := k) (by omega)).far oo (B := w1.heap.size) hB2 LA.out.1 LA.out.2.1
          exact ⟨_, _, (MA.out.drew.setAt 2 (by simp) _).only (Only.set _ _ _ _ _) nab nab, ((MB.out.drew.only (Only.set _ pa pa _ _) nba nba).setAt 2 (by simp) _), r2, hB2, oo⟩
    case rest =>
      obtain ⟨A2, c2, ma, mb, r2, hB2, oo⟩ := hcut
      have HB2 := Lib.hid hB2; clear hB2
      generalize wc = X at *
      have HOO := Lib.hid oo
      have b3 : Below w1.heap.size V X := oo.below LA.out.1 LA.out.2.1
      have S3 : Hid (BoxS X w.heap.size s A n c) := Lib.hid ⟨S2.out.mem.below b3 LW.out, S2.out.rd.far oo (B := w1.heap.size) (fun h0 a ha => by have := HLT.out h0 a ha; have := LW.out; omega) LA.out.1 LA.out.2.1⟩
      have B3 := Lib.hid (B2.out.trans (b3.mono (Nat.le_of_lt LW.out)))
      have MCX := Lib.hid (MC.out.only oo LA.out.2.2.2.2.1.symm LA.out.2.2.2.2.2.symm)
      have MAX := Lib.hid ma
      have MBX := Lib.hid mb
      have R2 := Lib.hid r2
      have RA := Lib.hid (S3.out.rd.take hkn)
      have hlx : pa < X.heap.size ∧ pb < X.heap.size ∧ pc < X.heap.size := ⟨ma.at_.lt, mb.at_.lt, MCX.out.at_.lt⟩
      have HLX := Lib.hid hlx
      obtain ⟨qa, _⟩ := ma.get 2 _ rfl
      obtain ⟨qb, _⟩ := mb.get 2 _ rfl
      have hSX : ∀ w', Below X.heap.size X w' → w'.cell? ⟨pa, 2, none⟩ = some (.slice A k c) ∧ w'.cell? ⟨pb, 2, none⟩ = some (.slice A2 (n - k) c2) := fun w' hb' => ⟨(hb'.cell (p := ⟨pa, 2, none⟩) hlx.1).trans qa, (hb'.cell (p := ⟨pb, 2, none⟩) hlx.2.1).trans qb⟩
      have HSX := Lib.hid hSX
      have HB := Lib.hid (Below.refl X.heap.size X)
      have nac : ¬ pc = pa := fun e => LA.out.2.2.2.2.1 e.symm
      have nbc : ¬ pc = pb := fun e => LA.out.2.2.2.2.2 e.symm
      have hk9 : k ≤ 9 := by omega
      clear hSX hlx ma mb r2 oo b3 nsa nsb pa2 fa2 pb2 fb2 a2'
      go_upto_region 6 with fail
      go_region_held3 (fun w' => w'.cell? ⟨pa, 2, none⟩ = some (.slice A k c) ∧ w'.cell? ⟨pb, 2, none⟩ = some (.slice A2 (n - k) c2))
        (first | exact HSX.out _ HB.out | exact HSX.out _ HB.out.drew | exact HSX.out _ (HB.out.alloc HB.out.size _) | exact HSX.out _ (HB.out.alloc HB.out.size _).drew | exact HSX.out _ (HB.out.drew.alloc HB.out.drew.size _) | (go_keep; done))
        ((first
          | (refine step_appendC (by rfl) _ _ 23 (by rfl) X.heap.size 37 (.agg #[.int .u64 0, .int .u32 0]) 2 16 Try.underlying23 entinfo rfl (by omega) v1 _ _ (by rfl) hown1 A k c (ecells (s.ents.take k)) (by rfl) ?_ ?_ (ecells_one _) ?_ ?_ ?_ ?_; (rw [ecells_length]; simp; have := HL.out; omega); (exact (RA.out.keep HB.out).2); (simp only [maxLen]; omega); omega; (exact HB.out.size); intro v2 w2' hown2 hgrow2 hnil2 hat2; have HB := Lib.hid (show Below X.heap.size X w2' from HB.out.grown hgrow2 HB.out.size (own_base hown1)); have rc := (HB.out.cell (p := ⟨pc, 2, none⟩) HLX.out.2.2).trans (MCX.out.get 2 _ rfl).1; have rf := (HB.out.frozen (p := ⟨pc, 2, none⟩) HLX.out.2.2).trans (MCX.out.get 2 _ rfl).2; have hown3 : w2'.ownsRow X.heap.size 37 2 v2 n (ecells (s.ents.drop k ++ s.ents.take k)) := (by have e : 0 + (n - k) + k = n := (by omega); rw [e] at hown2; rw [ecells_append]; simpa using hown2); obtain ⟨A5, c5, rfl, r5, hc5, hm5⟩ := own_readsE hown3; have q5 := HSX.out _ HB.out; obtain ⟨q5a, q5b⟩ := q5; clear hgrow2 hnil2 hat2 hown2)
          | (refine step_appendC (by rfl) _ _ 23 (by rfl) X.heap.size 37 (.agg #[.int .u64 0, .int .u32 0]) 2 16 Try.underlying23 entinfo rfl (by omega) (.slice (some ⟨X.heap.size, 0, none⟩) 0 0) 0 [] (by rfl) ?_ A2 (n - k) c2 (ecells (s.ents.drop k)) (by rfl) ?_ ?_ (ecells_one _) ?_ ?_ ?_ ?_; (first | exact World.ownsRow_lit (e := 37) (size := 2) X #[] 0 (Nat.le_refl _) (by simp only [maxLen]; omega) rfl | exact own_drew (World.ownsRow_lit (e := 37) (size := 2) X #[] 0 (Nat.le_refl _) (by simp only [maxLen]; omega) rfl) | exact World.ownsRow_lit (e := 37) (size := 2) X.drew #[] 0 (Nat.le_refl _) (by simp only [maxLen]; omega) rfl); (rw [ecells_length]; simp; have := HL.out; omega); (first | exact (R2.out.keep (HB.out.alloc HB.out.size _)).2 | exact (R2.out.keep (HB.out.alloc HB.out.size _).drew).2 | exact (R2.out.keep (HB.out.drew.alloc HB.out.drew.size _)).2); (simp only [maxLen]; omega); omega; (first | exact (HB.out.alloc HB.out.size _).size | exact (HB.out.alloc HB.out.size _).drew.size | exact (HB.out.drew.alloc HB.out.drew.size _).size); intro v1 w1' hown1 hgrow1 hnil1 hat1; have HB := Lib.hid (show Below X.heap.size X w1' from (by first | exact (HB.out.alloc HB.out.size _).grown hgrow1 (HB.out.alloc HB.out.size _).size (fun q hq => by simp [Value.ownBlock] at hq; omega) | exact (HB.out.alloc HB.out.size _).drew.grown hgrow1 (HB.out.alloc HB.out.size _).drew.size (fun q hq => by simp [Value.ownBlock] at hq; omega))); clear hgrow1 hnil1 hat1)))
      have hn1 : w1.heap.size ≤ pc := LA.out.2.2.1
      have o9 := Only.set w2' pc pc 2 (.slice A5 n c5)
      have ma9 := ((MAX.out.keep HB.out).only o9 LA.out.2.2.2.2.1 LA.out.2.2.2.2.1)
      have mb9 := ((MBX.out.keep HB.out).only o9 LA.out.2.2.2.2.2 LA.out.2.2.2.2.2)
      have mc9 := (MCX.out.keep HB.out).setAt 2 (by simp) (.slice A5 n c5)
      have s9 : BoxS (w2'.setCell ⟨pc, 2, none⟩ (.slice A5 n c5)) w.heap.size s A n c := ⟨(S3.out.keep HB.out).mem.only o9 (by have := LW.out; omega) (by have := LW.out; omega), (S3.out.keep HB.out).rd.far o9 (B := w1.heap.size) (fun h0 a ha => by have := HLT.out h0 a ha; have := LW.out; omega) hn1 hn1⟩
      have ra9 := s9.rd.take hkn
      have rb9 := (R2.out.keep HB.out).far o9 (B := w1.heap.size) HB2.out hn1 hn1
      have rc9 : ReadsE (w2'.setCell ⟨pc, 2, none⟩ (.slice A5 n c5)) A5 n (s.ents.drop k ++ s.ents.take k) := ⟨r5.1, fun h0 => by
        obtain ⟨b', o', e', hc'⟩ := r5.2 h0
        subst e'
        have hge := own_base hown3 b' rfl
        exact ⟨b', o', rfl, by rw [o9.size]; exact hc'.lt, fun j hj => (o9.cell (by have := HLX.out.2.2; omega) (by have := HLX.out.2.2; omega)).trans (hc'.cell j hj)⟩⟩
      have b9 := (B3.out.trans (HB.out.mono B3.out.size)).trans (o9.below (B := w.heap.size) (by have := LW.out; omega) (by have := LW.out; omega))
      generalize w2'.setCell ⟨pc, 2, none⟩ (.slice A5 n c5) = W9 at *
      have HA9 := Lib.hid ma9
      have HB9 := Lib.hid mb9
      have HC9 := Lib.hid mc9
      have HS9 := Lib.hid s9
      have RA9 := Lib.hid ra9
      have RB9 := Lib.hid rb9
      have RC9 := Lib.hid rc9
      have BB9 := Lib.hid b9
      obtain ⟨x0, _⟩ := ma9.get 0 _ rfl
      obtain ⟨x1, _⟩ := ma9.get 1 _ rfl
      obtain ⟨x2, _⟩ := ma9.get 2 _ rfl
      have hhalf := half_a s k HF.out (by have := HL.out; omega)
      have hhalfb := half_b s k HF.out (by have := HL.out; omega)
      have hhalfc := half_c s k HF.out (by have := HL.out; omega)
      rw [HL.out] at hhalfc
      have HH1 := Lib.hid hhalf
      have HH2 := Lib.hid hhalfb
      have HH3 := Lib.hid hhalfc
      clear hhalf hhalfb hhalfc ma9 mb9 mc9 s9 ra9 rb9 rc9 b9 o9 rc rf q5a q5b hown1 hown3 r5 hc5 hm5 qa qb
      go_wp2_with fail
      refine (right_any (withE s (s.ents.take k)) A k c _ RA9.out (by simp only [maxLen]; omega)).mono ?_
      rw [HH1.out]
      rintro e w10 ⟨rfl, hb⟩
      have BB := Lib.hid hb
      clear hb x0 x1 x2
      obtain ⟨x0, _⟩ := (HB9.out.keep BB.out).get 0 _ rfl
      obtain ⟨x1, _⟩ := (HB9.out.keep BB.out).get 1 _ rfl
      obtain ⟨x2, _⟩ := (HB9.out.keep BB.out).get 2 _ rfl
      go_wp2_with fail
      refine (right_any (withE s (s.ents.drop k)) A2 (n - k) c2 _ (RB9.out.keep BB.out) (by simp only [maxLen]; omega)).mono ?_
      rw [HH2.out]
      rintro e w11 ⟨rfl, hb⟩
      have BC := Lib.hid (BB.out.trans (hb.mono BB.out.size))
      clear hb x0 x1 x2
      obtain ⟨x0, _⟩ := (HC9.out.keep BC.out).get 0 _ rfl
      obtain ⟨x1, _⟩ := (HC9.out.keep BC.out).get 1 _ rfl
      obtain ⟨x2, _⟩ := (HC9.out.keep BC.out).get 2 _ rfl
      go_wp2_with fail
      refine (right_any (withE s (s.ents.drop k ++ s.ents.take k)) A5 n c5 _ (RC9.out.keep BC.out) (by simp only [maxLen]; omega)).mono ?_
      rw [HH3.out]
      rintro e w12 ⟨rfl, hb⟩
      have BD := Lib.hid (BC.out.trans (hb.mono BC.out.size))
      clear hb x0 x1 x2
      obtain ⟨x0, x1, x2⟩ := (HS9.out.keep BD.out).cells
      have B12 := Lib.hid (BB9.out.trans (BD.out.mono BB9.out.size))
      have cs : (k = 0 ∧ ((k : Int) == 0) = true) ∨ (¬ k = 0 ∧ ((k : Int) == 0) = false) := by
        by_cases h : k = 0
        · exact .inl ⟨h, by simp; omega⟩
        · exact .inr ⟨h, by simp; omega⟩
      have ct : (k = n ∧ ((k : Int) == (n : Int)) = true) ∨ (¬ k = n ∧ ((k : Int) == (n : Int)) = false) := by
        by_cases h : k = n
        · exact .inl ⟨h, by simp; omega⟩
        · exact .inr ⟨h, by simp; omega⟩
      rcases cs with ⟨h1, t1⟩ | ⟨h1, t1⟩
      all_goals rcases ct with ⟨h2, t2⟩ | ⟨h2, t2⟩
      all_goals
        first | rw [decide_eq_true h1] | rw [decide_eq_false h1]
        first | rw [decide_eq_true h2] | rw [decide_eq_false h2]
        clear h1 h2
        go_wp2_with fail
        refine (awake_any _).mono ?_
        rintro e w' ⟨rfl, hb⟩
        have B13 := Lib.hid (B12.out.trans (hb.mono B12.out.size)); clear hb
        go_wp2_with fail
        go_ret
        exact ⟨rfl, B13.out⟩

end Go.Proofs.Ytcljobkdihbflaa
