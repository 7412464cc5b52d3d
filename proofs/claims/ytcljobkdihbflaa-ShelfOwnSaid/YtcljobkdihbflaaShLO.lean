/-
  ShelfOwn: the walk.
-/
import Derived.Test.YtcljobkdihbflaaShLB
namespace Go.Proofs.Ytcljobkdihbflaa
open Go.RowKit
set_option linter.unusedVariables false
set_option linter.unusedSimpArgs false
attribute [local go_sem ↓] Go.wp_at_zero Go.wp_at_succ

/-- The first n cells of block g are there. -/
def SomeC (w : World) (g n : Nat) : Prop := ∀ j, j < n → ∃ v, w.cell? ⟨g, j, none⟩ = some v
theorem SomeC.set {w : World} {g n : Nat} (h : SomeC w g n) (k : Nat) (u : Value) : SomeC (w.setCell ⟨g, k, none⟩ u) g n := fun j hj => by
  obtain ⟨v, hv⟩ := h j hj
  by_cases e : k = j
  · subst e
    exact ⟨u, World.cell?_setCell_same' _ _ _ (by rw [hv]; rfl)⟩
  · exact ⟨v, (World.cell?_setCell_other w ⟨g, k, none⟩ ⟨g, j, none⟩ u (fun e2 => by injection e2 with _ e3; exact e e3)).trans hv⟩
theorem Mem8.someC {w : World} {g n : Nat} {l : List UInt8} (h : Mem8 w g 0 n l) : SomeC w g n := fun j hj => by
  have hl := h.len
  have := h.cell j (by omega)
  rw [Nat.zero_add] at this
  exact ⟨_, this⟩


theorem own_someC {w : World} {base n : Nat} {e : TypeId} {g c : Nat} {xs : List Value} (h : w.ownsRow base e 2 (.slice (some ⟨g, 0, none⟩) n c) n xs) : base ≤ g ∧ g < w.heap.size ∧ SomeC w g (n * 2) ∧ ∀ j, w.frozen? ⟨g, j, none⟩ = false := by
  rcases h.2 with ⟨h0, _⟩ | ⟨g', cap, cur, e1, hg, hh, hn, hm, hs, _⟩
  · cases h0
  · injection e1 with e1 _ _
    injection e1 with e1
    injection e1 with e1
    subst e1
    refine ⟨hg, (Array.getElem?_eq_some_iff.1 hh).1, fun j hj => ?_, fun j => by simp [World.frozen?, hh]⟩
    have hj2 : j < cur.size := by rw [hs]; omega
    refine ⟨cur[j], ?_⟩
    rw [cell_of_row w g j cur e (0, 0) hh]
    exact Array.getElem?_eq_getElem hj2

theorem BoxS.wrote {w w' : World} {g lo hi b n c : Nat} {s : Shelf} {A : Option Addr} (h : BoxS w b s A n c) (hw : Wrote w w' g lo hi) (hb : b ≠ g) (hA : 0 < (ecells s.ents).length → ∀ a, A = some a → a.block ≠ g) : BoxS w' b s A n c :=
  ⟨hw.farC h.mem (.inl hb), ⟨h.rd.1, hw.farCs h.rd.2 hA⟩⟩
theorem ReadsE.lt {w : World} {A : Option Addr} {n : Nat} {l : List Ent} (h : ReadsE w A n l) : 0 < (ecells l).length → ∀ a, A = some a → a.block < w.heap.size := fun h0 a ha => by
  obtain ⟨b, o, e, hc⟩ := h.2 h0
  rw [ha] at e
  injection e with e
  subst e
  exact hc.lt
theorem own_far {w : World} {base n c g : Nat} {e : TypeId} {A : Option Addr} {xs : List Value} (h : w.ownsRow base e 2 (.slice A n c) n xs) (hg : g < base) : ∀ a, A = some a → a.block ≠ g := fun a ha => by
  subst ha
  have := own_base h a.block rfl
  omega

theorem own_out (s : Shelf) (A : Option Addr) (n c : Nat) (w : World) (h : ReadsE w A n s.ents) (hn : n ≤ maxLen) (ho : 20 < n ∨ rightB s = false) :
    Calls Try.prog 4 #[sval s A n c] w fun e w' => e = .returned (.bool true) ∧ Below w.heap.size w w' := by
  unfold maxLen at hn
  have HR := Lib.hid h; clear h
  have B0 := Lib.hid ((Below.refl w.heap.size w).alloc (Nat.le_refl _) (.cells #[.int .u8 (s.depth.toNat : Int), .int .u32 (s.next.toNat : Int), .slice A n c] 25))
  have HC := Lib.hid (right_any s A n c _ (HR.out.keep B0.out) (by simp only [maxLen]; omega))
  by_cases hn20 : 20 < n
  · clear ho HC B0
    unfold sval
    have hn20i : (20 : Int) < (n : Int) := by omega
    go_enter Try.func4, Try.ntmps4
    go_wp2_with (go_at_call 9; refine (awake_any _).mono ?_; rintro e w' ⟨rfl, hb⟩)
    go_ret
    exact ⟨rfl, ((Below.refl w.heap.size w).alloc (Nat.le_refl _) _).trans (hb.mono (by simp))⟩
  · have hr : rightB s = false := by rcases ho with h | h; exact absurd h hn20; exact h
    have HF := Lib.hid hr
    have hn20i : ¬ (20 : Int) < (n : Int) := by omega
    clear ho hn20 hr
    unfold sval
    go_enter Try.func4, Try.ntmps4
    go_wp2_with fail
    refine HC.out.mono ?_
    rintro e w1 ⟨rfl, hb⟩
    rw [HF.out]
    have B1 := Lib.hid (B0.out.trans (hb.mono B0.out.size)); clear hb
    go_wp2_with fail
    refine (awake_any _).mono ?_
    rintro e w' ⟨rfl, hb⟩
    have B2 := Lib.hid (B1.out.trans (hb.mono B1.out.size)); clear hb
    go_wp2_with fail
    go_ret
    exact ⟨rfl, B2.out⟩

set_option maxHeartbeats 8000000 in
set_option maxRecDepth 100000 in
theorem own_in (s : Shelf) (A : Option Addr) (n c : Nat) (w : World) (h : ReadsE w A n s.ents) (hn : n ≤ 9) (hr : rightB s = true) :
    Calls Try.prog 4 #[sval s A n c] w fun e w' => e = .returned (.bool true) ∧ Below w.heap.size w w' := by
  have HL := Lib.hid h.1
  have HA := Lib.hid h.lt
  have HR := Lib.hid h; clear h
  have HF := Lib.hid hr; clear hr
  obtain ⟨W0, hW0⟩ : ∃ W0 : World, W0 = w.alloc (.cells #[.int .u8 (s.depth.toNat : Int), .int .u32 (s.next.toNat : Int), .slice A n c] 25) := ⟨_, rfl⟩
  have B0 : Hid (Below w.heap.size w W0) := Lib.hid (by rw [hW0]; exact (Below.refl _ w).alloc (Nat.le_refl _) _)
  have S0 : Hid (BoxS W0 w.heap.size s A n c) := Lib.hid (by rw [hW0]; exact BoxS.new w s A n c HR.out)
  have HW := Lib.hid hW0; clear hW0
  have hn20i : ¬ (20 : Int) < (n : Int) := by omega
  obtain ⟨a0, a1, a2⟩ := S0.out.cells
  unfold sval
  go_enter Try.func4, Try.ntmps4
  go_upto_region 1 with fail
  rw [← HW.out]
  clear HW
  go_wp2_with fail
  refine (right_any s A n c _ S0.out.rd (by simp only [maxLen]; omega)).mono ?_
  rintro e w1 ⟨rfl, hb⟩
  rw [HF.out]
  have B1 := Lib.hid (B0.out.trans (hb.mono B0.out.size))
  have S1 := Lib.hid (S0.out.keep hb)
  clear hb a0 a1 a2 S0 B0
  obtain ⟨a0, a1, a2⟩ := S1.out.cells
  go_wp2_with fail
  refine (encode_right s A n c _ S1.out.rd HF.out).mono ?_
  rintro e w2 ⟨v, rfl, hFr⟩
  obtain ⟨g1, d1, rfl, hg1, hd1, hdm1, hM1, hb⟩ := hFr.open_ (spage_len s HF.out)
  have B2 := Lib.hid (B1.out.trans (hb.mono B1.out.size))
  have S2 := Lib.hid (S1.out.keep hb)
  have P2 := Lib.hid hM1
  have G1 : Hid (w.heap.size < g1) := Lib.hid (by have := S1.out.mem.at_.lt; omega)
  clear hb a0 a1 a2 S1 B1 hM1 hFr hg1
  go_wp2_with fail
  refine (decode_yes _ 128 d1 _ s _ P2.out.reads (by simp only [maxLen]; omega) hd1 rfl HF.out).mono ?_
  rintro e w3 ⟨v, N3, rfl, hN3, hown, hb⟩
  rw [HL.out] at hown
  obtain ⟨A3, c3, rfl, _, _, _⟩ := own_readsE hown
  have B3 := B2.out.trans (hb.mono B2.out.size)
  obtain ⟨W4, hW4⟩ : ∃ W4 : World, W4 = w3.alloc (.cells #[.int .u8 (s.depth.toNat : Int), .int .u32 (s.next.toNat : Int), .slice A3 n c3] 25) := ⟨_, rfl⟩
  have hb4 : Below w3.heap.size w3 W4 := by rw [hW4]; exact (Below.refl _ _).alloc (Nat.le_refl _) _
  have B4 := Lib.hid (B3.trans (hb4.mono B3.size))
  have S4 := Lib.hid ((S2.out.keep hb).keep hb4)
  have P4 := Lib.hid ((P2.out.keep hb).keep hb4)
  have X4 : Hid (MemC W4 w3.heap.size 0 [.int .u8 (s.depth.toNat : Int), .int .u32 (s.next.toNat : Int), .slice A3 n c3]) := Lib.hid (by rw [hW4]; exact MemC.new w3 [.int .u8 (s.depth.toNat : Int), .int .u32 (s.next.toNat : Int), .slice A3 n c3] 25)
  have O4 := Lib.hid (own_keep hown hb4)
  have G3 : Hid (g1 < N3 ∧ N3 ≤ W4.heap.size ∨ n = 0) := Lib.hid (by
    by_cases h0 : n = 0
    · exact .inr h0
    · refine .inl ⟨Nat.lt_of_lt_of_le P2.out.lt hN3, ?_⟩
      rcases hown.2 with ⟨_, h1⟩ | ⟨g', _, _, _, hg', hh, _⟩
      · exact absurd h1 h0
      · exact Nat.le_trans (Nat.le_trans hg' (Nat.le_of_lt (Array.getElem?_eq_some_iff.1 hh).1)) hb4.size)
  have Z3 : Hid (g1 < w3.heap.size ∧ w3.heap.size < W4.heap.size) := Lib.hid ⟨Nat.lt_of_lt_of_le P2.out.lt hb.size, X4.out.at_.lt⟩
  have HW4 := Lib.hid hW4
  clear hb hb4 hown hW4 B3 hN3 S2 P2 B2
  go_upto_region 5 with fail
  rw [← HW4.out]
  clear HW4
  go_wp2_with fail
  refine (decode_yes _ 128 d1 _ s _ P4.out.reads (by simp only [maxLen]; omega) hd1 rfl HF.out).mono ?_
  rintro e w5 ⟨v, N5, rfl, hN5, hown, hb⟩
  rw [HL.out] at hown
  obtain ⟨A5, c5, rfl, r5, _, _⟩ := own_readsE hown
  have B5 := B4.out.trans (hb.mono B4.out.size)
  obtain ⟨W6, hW6⟩ : ∃ W6 : World, W6 = w5.alloc (.cells #[.int .u8 (s.depth.toNat : Int), .int .u32 (s.next.toNat : Int), .slice A5 n c5] 25) := ⟨_, rfl⟩
  have hb6 : Below w5.heap.size w5 W6 := by rw [hW6]; exact (Below.refl _ _).alloc (Nat.le_refl _) _
  have B6 := Lib.hid (B5.trans (hb6.mono B5.size))
  have S6 := Lib.hid ((S4.out.keep hb).keep hb6)
  have P6 := Lib.hid ((P4.out.keep hb).keep hb6)
  have X6 := Lib.hid ((X4.out.keep hb).keep hb6)
  have O6 := Lib.hid (own_keep (own_keep O4.out hb) hb6)
  have Y6 : Hid (BoxS W6 w5.heap.size s A5 n c5) := Lib.hid (by rw [hW6]; exact BoxS.new w5 s A5 n c5 r5)
  have F5 : Hid (∀ g, g < W4.heap.size → ∀ a, A5 = some a → a.block ≠ g) := Lib.hid (fun g hg => own_far hown (Nat.lt_of_lt_of_le hg hN5))
  have Z5 : Hid (W4.heap.size ≤ w5.heap.size) := Lib.hid hb.size
  have HW6 := Lib.hid hW6
  clear hb hb6 hown hW6 B5 hN5 r5 S4 P4 B4 X4
  go_upto_region 6 with fail
  rw [← HW6.out]
  clear HW6
  obtain ⟨x2, _⟩ := X6.out.get 2 _ rfl
  have fin : ∀ (wr : World) (g hi : Nat), Wrote W6 wr g 0 hi → w.heap.size < g → g < W4.heap.size → g ≠ g1 → BoxS wr w5.heap.size s A5 n c5 ∧ BoxS wr w.heap.size s A n c ∧ Mem8 wr g1 0 128 (pageOf 3 (sbody s)) ∧ Below w.heap.size w wr := fun wr g hi hw h1 h2 h3 =>
    ⟨Y6.out.wrote hw (by have := Z5.out; omega) (fun _ => F5.out g h2), S6.out.wrote hw (by omega) (fun h0 a ha => by have := HA.out h0 a ha; omega), hw.far P6.out (.inl (by omega)), B6.out.trans (hw.below (by omega))⟩
  have FIN := Lib.hid fin; clear fin
  have K : Hid (∀ wr : World, BoxS wr w5.heap.size s A5 n c5 → BoxS wr w.heap.size s A n c → Mem8 wr g1 0 128 (pageOf 3 (sbody s)) → Below w.heap.size w wr → True) := Lib.hid (fun _ _ _ _ _ => trivial)
  clear K
  by_cases h0 : n = 0
  · subst h0
    go_wp2_with fail
    go_loopw [39] (fun i wr => i = .int .i64 0 ∧ wr = W6) (fun _ _ => 0)
    case atStart => exact ⟨rfl, rfl⟩
    case round =>
      obtain ⟨rfl, rfl⟩ := hrel
      clear x2
      have D := Lib.hid (show BoxS wr w5.heap.size s A5 0 c5 ∧ BoxS wr w.heap.size s A 0 c ∧ Mem8 wr g1 0 128 (pageOf 3 (sbody s)) ∧ Below w.heap.size w wr from ⟨Y6.out, S6.out, P6.out, B6.out⟩)
      clear Y6 S6 P6 B6 FIN X6 O6 O4 G3
      generalize wr = W6v at *
      go_wp2_with fail
      go_loopw [50] (fun i wr => ∃ j : Nat, j ≤ 128 ∧ i = .int .i64 j ∧ Wrote W6v wr g1 0 128 ∧ SomeC wr g1 128) (fun i _ => 128 - (intOf i).toNat)
      case atStart => exact ⟨0, Nat.zero_le _, rfl, Wrote.refl _ _ _ _, D.out.2.2.1.someC⟩
      case round =>
        obtain ⟨j, hj, rfl, hwr, hso⟩ := hrel
        have HW := Lib.hid hwr; clear hwr
        have HS := Lib.hid hso; clear hso
        by_cases hltj : j < 128
        · obtain ⟨x, cx⟩ := HS.out j hltj
          have fx : wr.frozen? ⟨g1, j, none⟩ = false := by
            rw [HW.out.frz]; have := D.out.2.2.1.free j (by rw [D.out.2.2.1.len]; exact hltj); simpa using this
          go_wp2
          go_roundw
          case rel => exact ⟨j + 1, by omega, by go_num, HW.out.trans ((Wrote.set _ _ _ _).mono (Nat.zero_le _) (by omega)), HS.out.set j _⟩
          case measure => simp [intOf]; omega
        · have E := Lib.hid (show BoxS wr w5.heap.size s A5 0 c5 ∧ BoxS wr w.heap.size s A 0 c ∧ Below w.heap.size w wr from
            ⟨D.out.1.wrote HW.out (by have := Z5.out; have := Z3.out; omega) (fun _ => F5.out g1 (by have := Z3.out; omega)), D.out.2.1.wrote HW.out (by have := G1.out; omega) (fun h0 a ha => by have := HA.out h0 a ha; have := G1.out; omega), D.out.2.2.2.trans (HW.out.below (Nat.le_of_lt G1.out))⟩)
          clear HW HS D
          obtain ⟨y0, y1, y2⟩ := E.out.1.cells
          obtain ⟨s0, s1, s2⟩ := E.out.2.1.cells
          go_wp2_with fail
          refine (eqs_any s s A5 A 0 0 c5 c _ E.out.1.rd E.out.2.1.rd (by simp only [maxLen]; omega) (by simp only [maxLen]; omega)).mono ?_
          rintro e w9 ⟨rfl, hb⟩
          rw [show sameS s s = true from sameS_iff.2 rfl]
          have B9 := Lib.hid (E.out.2.2.trans (hb.mono E.out.2.2.size))
          clear hb y0 y1 y2 s0 s1 s2
          go_wp2_with fail
          refine (awake_any _).mono ?_
          rintro e w' ⟨rfl, hb⟩
          have B10 := Lib.hid (B9.out.trans (hb.mono B9.out.size)); clear hb
          go_wp2_with fail
          go_ret
          exact ⟨rfl, B10.out⟩
  · obtain ⟨g2, rfl, hg2, hgs, hso, hfz⟩ : ∃ g2, A3 = some ⟨g2, 0, none⟩ ∧ g1 < g2 ∧ g2 < W4.heap.size ∧ SomeC W6 g2 (n * 2) ∧ ∀ j, W6.frozen? ⟨g2, j, none⟩ = false := by
      rcases O6.out.2 with ⟨_, h1⟩ | ⟨g', cap, cur, e1, hg', hh, _⟩
      · exact absurd h1 h0
      · injection e1 with e1 _ _
        subst e1
        obtain ⟨h1, h2, h3, h4⟩ := own_someC O6.out
        have hg4 : g' < W4.heap.size := by
          rcases O4.out.2 with ⟨_, h1⟩ | ⟨g'', _, _, e2, _, hh2, _⟩
          · exact absurd h1 h0
          · injection e2 with e2 _ _
            injection e2 with e2
            injection e2 with e2
            subst e2
            exact (Array.getElem?_eq_some_iff.1 hh2).1
        refine ⟨g', rfl, ?_, hg4, h3, h4⟩
        rcases G3.out with ⟨h5, _⟩ | h5
        · omega
        · exact absurd h5 h0
    have n23 : Hid (g2 ≠ w3.heap.size) := Lib.hid (by
      intro e
      have h1 := O6.out.2
      rcases h1 with ⟨h1, _⟩ | ⟨g', cap, cur, e1, hg', hh, hn1, hm1, hs1, ht1⟩
      · cases h1
      · injection e1 with e1 _ _
        injection e1 with e1
        injection e1 with e1
        subst e1
        have h2 := X6.out.at_.cell 0 (by simp)
        rw [Nat.zero_add, List.getElem_cons_zero, ← e, cell_of_row W6 g2 0 cur _ (0, 0) hh] at h2
        have h3 := (ecells_get s.ents 0 (by have := HL.out; omega)).1
        rw [← ht1, List.getElem?_take] at h3
        rw [if_pos (by omega), Nat.zero_mul, Array.getElem?_toList, h2] at h3
        injection h3 with h3
        injection h3 with h3
        cases h3)
    have HG2 := Lib.hid hg2; clear hg2
    have HGS := Lib.hid hgs; clear hgs
    have HSO := Lib.hid hso; clear hso
    have HFZ := Lib.hid hfz; clear hfz
    have hc0i : (0 : Int) ≤ (n : Int) := by omega
    clear O6 O4 G3 x2
    have x2w : ∀ wr, Wrote W6 wr g2 0 (n * 2) → wr.cell? ⟨w3.heap.size, 2, none⟩ = some (.slice (some ⟨g2, 0, none⟩) n c3) := fun wr hw =>
      (World.cell?_of_block (w := W6) (a := ⟨w3.heap.size, 2, none⟩) (hw.other _ (Ne.symm n23.out))).trans (X6.out.get 2 _ rfl).1
    have X2 := Lib.hid x2w; clear x2w
    have x2 := X2.out W6 (Wrote.refl _ _ _ _)
    go_wp2_with fail
    clear x2
    go_loopw [39] (fun i wr => ∃ k : Nat, k ≤ n ∧ i = .int .i64 k ∧ Wrote W6 wr g2 0 (n * 2) ∧ SomeC wr g2 (n * 2)) (fun i _ => n - (intOf i).toNat)
    case atStart => exact ⟨0, Nat.zero_le _, rfl, Wrote.refl _ _ _ _, HSO.out⟩
    case round =>
      obtain ⟨k, hk, rfl, hwr, hso⟩ := hrel
      have HW := Lib.hid hwr; clear hwr
      have HS := Lib.hid hso; clear hso
      by_cases hlt : k < n
      · obtain ⟨u0, cu0⟩ := HS.out (k * 2) (by omega)
        obtain ⟨u1, cu1⟩ := HS.out (k * 2 + 1) (by omega)
        have fu0 : wr.frozen? ⟨g2, k * 2, none⟩ = false := by rw [HW.out.frz]; exact HFZ.out _
        have fu1 : wr.frozen? ⟨g2, k * 2 + 1, none⟩ = false := by rw [HW.out.frz]; exact HFZ.out _
        have x2 := X2.out wr HW.out
        have ki : (k : Int) < (n : Int) := by omega
        go_wp2_with fail
        go_roundw
        case rel => exact ⟨k + 1, by omega, by go_num, (HW.out.trans ((Wrote.set _ _ _ _).mono (Nat.zero_le _) (by omega))).trans ((Wrote.set _ _ _ _).mono (Nat.zero_le _) (by omega)), (HS.out.set _ _).set _ _⟩
        case measure => simp [intOf]; omega
      · have D := Lib.hid (FIN.out wr g2 (n * 2) HW.out (by have := G1.out; have := HG2.out; omega) HGS.out (by have := HG2.out; omega))
        have hkn : ¬ (k : Int) < (n : Int) := by omega
        clear HW HS FIN Y6 S6 P6 B6 X6
        generalize wr = wrv at *
        go_wp2_with fail
        go_loopw [50] (fun i wr => ∃ j : Nat, j ≤ 128 ∧ i = .int .i64 j ∧ Wrote wrv wr g1 0 128 ∧ SomeC wr g1 128) (fun i _ => 128 - (intOf i).toNat)
        case atStart => exact ⟨0, Nat.zero_le _, rfl, Wrote.refl _ _ _ _, D.out.2.2.1.someC⟩
        case round =>
          obtain ⟨j, hj, rfl, hwr, hso⟩ := hrel
          have HW := Lib.hid hwr; clear hwr
          have HS := Lib.hid hso; clear hso
          by_cases hltj : j < 128
          · obtain ⟨x, cx⟩ := HS.out j hltj
            have fx : wr.frozen? ⟨g1, j, none⟩ = false := by
              rw [HW.out.frz]; have := D.out.2.2.1.free j (by rw [D.out.2.2.1.len]; exact hltj); simpa using this
            go_wp2
            go_roundw
            case rel => exact ⟨j + 1, by omega, by go_num, HW.out.trans ((Wrote.set _ _ _ _).mono (Nat.zero_le _) (by omega)), HS.out.set j _⟩
            case measure => simp [intOf]; omega
          · have E := Lib.hid (show BoxS wr w5.heap.size s A5 n c5 ∧ BoxS wr w.heap.size s A n c ∧ Below w.heap.size w wr from
              ⟨D.out.1.wrote HW.out (by have := Z5.out; have := Z3.out; omega) (fun _ => F5.out g1 (by have := Z3.out; omega)), D.out.2.1.wrote HW.out (by have := G1.out; omega) (fun h0 a ha => by have := HA.out h0 a ha; have := G1.out; omega), D.out.2.2.2.trans (HW.out.below (Nat.le_of_lt G1.out))⟩)
            clear HW HS D
            obtain ⟨y0, y1, y2⟩ := E.out.1.cells
            obtain ⟨s0, s1, s2⟩ := E.out.2.1.cells
            go_wp2_with fail
            refine (eqs_any s s A5 A n n c5 c _ E.out.1.rd E.out.2.1.rd (by simp only [maxLen]; omega) (by simp only [maxLen]; omega)).mono ?_
            rintro e w9 ⟨rfl, hb⟩
            rw [show sameS s s = true from sameS_iff.2 rfl]
            have B9 := Lib.hid (E.out.2.2.trans (hb.mono E.out.2.2.size))
            clear hb y0 y1 y2 s0 s1 s2
            go_wp2_with fail
            refine (awake_any _).mono ?_
            rintro e w' ⟨rfl, hb⟩
            have B10 := Lib.hid (B9.out.trans (hb.mono B9.out.size)); clear hb
            go_wp2_with fail
            go_ret
            exact ⟨rfl, B10.out⟩

theorem lawOwnS (s : Shelf) (A : Option Addr) (n c : Nat) (w : World) (h : ReadsE w A n s.ents) (hnc : n ≤ c) (hcm : c ≤ maxLen) :
    Calls Try.prog 4 #[sval s A n c] w fun e w' => e = .returned (.bool true) ∧ Below w.heap.size w w' := by
  cases hr : rightB s
  · exact own_out s A n c w h (Nat.le_trans hnc hcm) (.inr hr)
  · have h9 := (rightB_iff.1 hr).2.2.1
    exact own_in s A n c w h (by have := h.1; omega) hr

end Go.Proofs.Ytcljobkdihbflaa
