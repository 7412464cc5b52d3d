/-
  ShelfDepth: the walk.
-/
import Derived.Test.YtcljobkdihbflaaShI
namespace Go.Proofs.Ytcljobkdihbflaa
open Go.RowKit
set_option linter.unusedVariables false

def deep (s : Shelf) (D : UInt8) : Shelf := ⟨D, s.next, s.ents⟩
theorem alike_mono (l : List Ent) (a b : Nat) (h : a ≤ b) (hb : b ≤ 64) (ha : alikeB l b = true) : alikeB l a = true := by
  unfold alikeB at *
  have ha := of_decide_eq_true ha
  apply decide_eq_true
  have e : (2 : Nat) ^ (64 - a) = 2 ^ (64 - b) * 2 ^ (b - a) := by rw [← Nat.pow_add]; congr 1; omega
  rw [e, ← Nat.div_div_eq_div_mul, ← Nat.div_div_eq_div_mul, ha]
theorem deep_le (s : Shelf) (D : UInt8) (h : rightB s = true) (hD : D.toNat ≤ 64) (hl : D.toNat ≤ s.depth.toNat ∨ s.ents.length = 0) : rightB (deep s D) = true := by
  obtain ⟨h1, h2, h3, h4, h5⟩ := rightB_iff.1 h
  refine rightB_iff.2 ⟨hD, h2, h3, h4, ?_⟩
  show alikeB s.ents D.toNat = true
  rcases hl with hl | hl
  · exact alike_mono s.ents _ _ hl h1 h5
  · have : s.ents = [] := List.eq_nil_of_length_eq_zero hl
    rw [this]
    simp [alikeB]
theorem deep_gt (s : Shelf) (D : UInt8) (hD : 64 < D.toNat) : rightB (deep s D) = false := by
  cases hr : rightB (deep s D)
  · rfl
  · have := (rightB_iff.1 hr).1
    exact absurd (show D.toNat ≤ 64 from this) (by omega)
theorem deep_eq (s : Shelf) (D : UInt8) (h : rightB s = true) (hD : D.toNat ≤ 64) : rightB (deep s D) = alikeB s.ents D.toNat := by
  obtain ⟨h1, h2, h3, h4, h5⟩ := rightB_iff.1 h
  unfold rightB
  show (decide (D.toNat ≤ 64) && (decide (s.next.toNat < 4096) && (decide (s.ents.length ≤ 9) && (upB s.ents s.ents.length && alikeB s.ents D.toNat)))) = _
  rw [decide_eq_true hD, decide_eq_true h2, decide_eq_true h3, h4]
  rfl

set_option maxHeartbeats 2000000 in
theorem depth_out (s : Shelf) (A : Option Addr) (n c : Nat) (D : UInt8) (w : World) (h : ReadsE w A n s.ents) (hn : n ≤ maxLen) (ho : 20 < n ∨ rightB s = false) :
    Calls Try.prog 7 #[sval s A n c, .int .u8 (D.toNat : Int)] w fun e w' => e = .returned (.bool true) ∧ Below w.heap.size w w' := by
  unfold maxLen at hn
  have HR := Lib.hid h; clear h
  have B0 := Lib.hid ((Below.refl w.heap.size w).alloc (Nat.le_refl _) (.cells #[.int .u8 (s.depth.toNat : Int), .int .u32 (s.next.toNat : Int), .slice A n c] 25))
  have HC := Lib.hid (right_any s A n c _ (HR.out.keep B0.out) (by simp only [maxLen]; omega))
  by_cases hn20 : 20 < n
  · clear ho HC B0
    unfold sval
    have hn20i : (20 : Int) < (n : Int) := by omega
    go_enter Try.func7, Try.ntmps7
    go_wp2_with (go_at_call 9; refine (awake_any _).mono ?_; rintro e w' ⟨rfl, hb⟩)
    go_ret
    exact ⟨rfl, ((Below.refl w.heap.size w).alloc (Nat.le_refl _) _).trans (hb.mono (by simp))⟩
  · have hr : rightB s = false := by rcases ho with h | h; exact absurd h hn20; exact h
    have HF := Lib.hid hr
    have hn20i : ¬ (20 : Int) < (n : Int) := by omega
    clear ho hn20 hr
    unfold sval
    go_enter Try.func7, Try.ntmps7
    go_wp2_with fail
    refine HC.out.mono ?_
    rintro e w1 ⟨rfl, hb⟩
    rw [HF.out]
    have B1 := Lib.hid (B0.out.trans (hb.mono B0.out.size)); clear hb
    go_wp2_with fail
    refine (awake_any _).mono ?_
    rintro e w' ⟨rfl, hb⟩
    have B2 := Lib.hid (B1.out.trans (hb.mono B1.out.size)); clear hb
    go_wp2_with fail
    go_ret
    exact ⟨rfl, B2.out⟩

set_option maxHeartbeats 4000000 in
set_option maxRecDepth 100000 in
theorem depth_in (s : Shelf) (A : Option Addr) (n c : Nat) (D : UInt8) (w : World) (h : ReadsE w A n s.ents) (hn : n ≤ 9) (hr : rightB s = true) :
    Calls Try.prog 7 #[sval s A n c, .int .u8 (D.toNat : Int)] w fun e w' => e = .returned (.bool true) ∧ Below w.heap.size w w' := by
  have HL := Lib.hid h.1
  have HR := Lib.hid h; clear h
  have HF := Lib.hid hr; clear hr
  obtain ⟨W0, hW0⟩ : ∃ W0 : World, W0 = w.alloc (.cells #[.int .u8 (s.depth.toNat : Int), .int .u32 (s.next.toNat : Int), .slice A n c] 25) := ⟨_, rfl⟩
  have B0 : Hid (Below w.heap.size w W0) := Lib.hid (by rw [hW0]; exact (Below.refl _ w).alloc (Nat.le_refl _) _)
  have M0 : Hid (MemC W0 w.heap.size 0 [.int .u8 (s.depth.toNat : Int), .int .u32 (s.next.toNat : Int), .slice A n c]) := Lib.hid (by rw [hW0]; exact MemC.new w [.int .u8 (s.depth.toNat : Int), .int .u32 (s.next.toNat : Int), .slice A n c] 25)
  have HR0 := Lib.hid (HR.out.keep B0.out)
  have HW := Lib.hid hW0; clear hW0
  have hcl := right_any s A n c W0 HR0.out (by simp only [maxLen]; omega)
  have HC := Lib.hid hcl
  clear hcl
  have hn20i : ¬ (20 : Int) < (n : Int) := by omega
  obtain ⟨a0, _⟩ := M0.out.get 0 _ rfl
  obtain ⟨a1, _⟩ := M0.out.get 1 _ rfl
  obtain ⟨a2, _⟩ := M0.out.get 2 _ rfl
  unfold sval
  go_enter Try.func7, Try.ntmps7
  go_upto_region 1 with fail
  rw [← HW.out]
  clear HW
  go_wp2_with fail
  refine HC.out.mono ?_
  rintro e w1 ⟨rfl, hb⟩
  rw [HF.out]
  have B1 := Lib.hid (B0.out.trans (hb.mono B0.out.size))
  have M1 := M0.out.keep hb
  have R1 := Lib.hid (HR0.out.keep hb)
  obtain ⟨W2, hW2⟩ : ∃ W2 : World, W2 = w1.alloc (.cells #[.int .u8 (s.depth.toNat : Int), .int .u32 (s.next.toNat : Int), .slice A n c] 25) := ⟨_, rfl⟩
  have hb2 : Below w1.heap.size w1 W2 := by rw [hW2]; exact (Below.refl _ w1).alloc (Nat.le_refl _) _
  have N2 : Hid (MemC W2 w1.heap.size 0 [.int .u8 (s.depth.toNat : Int), .int .u32 (s.next.toNat : Int), .slice A n c]) := Lib.hid (by rw [hW2]; exact MemC.new w1 [.int .u8 (s.depth.toNat : Int), .int .u32 (s.next.toNat : Int), .slice A n c] 25)
  have M2 := Lib.hid (M1.keep hb2)
  have R2 := Lib.hid (R1.out.keep hb2)
  have B2 := Lib.hid (B1.out.trans (hb2.mono B1.out.size))
  have HW2 := Lib.hid hW2
  have Z := Lib.hid M1.at_.lt
  obtain ⟨a0, _⟩ := M1.get 0 _ rfl
  obtain ⟨a1, _⟩ := M1.get 1 _ rfl
  obtain ⟨a2, _⟩ := M1.get 2 _ rfl
  clear hb hb2 hW2 B0 M0 HR0 M1
  go_upto_region 4 with fail
  rw [← HW2.out]
  clear HW2 a0 a1 a2
  obtain ⟨W3, hW3⟩ : ∃ W3 : World, W3 = W2.setCell ⟨w1.heap.size, 0, none⟩ (.int .u8 (D.toNat : Int)) := ⟨_, rfl⟩
  have o3 : Only W2 W3 w1.heap.size w1.heap.size := by rw [hW3]; exact Only.set _ _ _ _ _
  have N3 : Hid (MemC W3 w1.heap.size 0 [.int .u8 (D.toNat : Int), .int .u32 (s.next.toNat : Int), .slice A n c]) := Lib.hid (by rw [hW3]; exact N2.out.setAt 0 (by simp) _)
  have M3 := Lib.hid (M2.out.only o3 (by have := Z.out; omega) (by have := Z.out; omega))
  have R3 := Lib.hid (R1.out.2)
  have hb3 : Below w1.heap.size W2 W3 := o3.below (Nat.le_refl _) (Nat.le_refl _)
  have B3 := Lib.hid (B2.out.trans (hb3.mono (Nat.le_of_lt Z.out)))
  obtain ⟨b0, f0⟩ := N2.out.get 0 _ rfl
  have RR : Hid (ReadsE W3 A n s.ents) := Lib.hid ⟨R2.out.1, fun h0 => by
    obtain ⟨b, o, e, hc⟩ := R1.out.2 h0
    obtain ⟨b', o', e', hc'⟩ := R2.out.2 h0
    rw [e] at e'
    injection e' with e'
    injection e' with e1 e2
    subst e1; subst e2
    refine ⟨b, o, e, by rw [o3.size]; exact hc'.lt, fun j hj => ?_⟩
    exact (o3.cell (by have := hc.lt; omega) (by have := hc.lt; omega)).trans (hc'.cell j hj)⟩
  have HW3 := Lib.hid hW3
  clear o3 hb3 hW3 R3
  go_upto_region 5 with fail
  rw [← HW3.out]
  clear HW3 b0 f0
  obtain ⟨b0, _⟩ := N3.out.get 0 _ rfl
  obtain ⟨b1, _⟩ := N3.out.get 1 _ rfl
  obtain ⟨b2, _⟩ := N3.out.get 2 _ rfl
  go_wp2_with fail
  refine (right_any (deep s D) A n c _ RR.out (by simp only [maxLen]; omega)).mono ?_
  rintro e w4 ⟨rfl, hb⟩
  have B4 := Lib.hid (B3.out.trans (hb.mono B3.out.size))
  have M4 := Lib.hid (M3.out.keep hb)
  have R4 := Lib.hid (RR.out.keep hb)
  obtain ⟨a0, _⟩ := M4.out.get 0 _ rfl
  obtain ⟨a1, _⟩ := M4.out.get 1 _ rfl
  obtain ⟨a2, _⟩ := M4.out.get 2 _ rfl
  clear hb b0 b1 b2 B3 M3 RR N3 N2 R1 R2 M2 B2 B1
  by_cases h64 : 64 < D.toNat
  · rw [deep_gt s D h64]
    have hi : (64 : Int) < (D.toNat : Int) := by omega
    have hj : ¬ (D.toNat : Int) ≤ 64 := by omega
    have hjd : decide ((D.toNat : Int) ≤ 64) = false := decide_eq_false hj
    clear h64
    go_wp2_with fail
    refine (awake_any _).mono ?_
    rintro e w' ⟨rfl, hb⟩
    have B5 := Lib.hid (B4.out.trans (hb.mono B4.out.size)); clear hb
    go_wp2_with fail
    go_ret
    exact ⟨rfl, B5.out⟩
  · by_cases hle : D.toNat ≤ s.depth.toNat ∨ n = 0
    · rw [deep_le s D HF.out (by omega) (by rw [HL.out]; exact hle)]
      have hi : ¬ (64 : Int) < (D.toNat : Int) := by omega
      have hj : (D.toNat : Int) ≤ 64 := by omega
      by_cases h1 : D.toNat ≤ s.depth.toNat
      · have h1i : (D.toNat : Int) ≤ (s.depth.toNat : Int) := by omega
        have h1d : decide (D.toNat ≤ s.depth.toNat) = true := decide_eq_true h1
        clear h64 hle
        go_wp2_with fail
        refine (awake_any _).mono ?_
        rintro e w' ⟨rfl, hb⟩
        have B5 := Lib.hid (B4.out.trans (hb.mono B4.out.size)); clear hb
        go_wp2_with fail
        go_ret
        exact ⟨rfl, B5.out⟩
      · obtain rfl : n = 0 := by omega
        have h1d : decide (D.toNat ≤ s.depth.toNat) = false := decide_eq_false h1
        have h1i : ¬ (D.toNat : Int) ≤ (s.depth.toNat : Int) := by omega
        clear h64 hle
        go_wp2_with fail
        refine (awake_any _).mono ?_
        rintro e w' ⟨rfl, hb⟩
        have B5 := Lib.hid (B4.out.trans (hb.mono B4.out.size)); clear hb
        go_wp2_with fail
        go_ret
        exact ⟨rfl, B5.out⟩
    · obtain ⟨m, rfl⟩ : ∃ m, n = m + 1 := ⟨n - 1, by omega⟩
      rw [deep_eq s D HF.out (by omega)]
      obtain ⟨b, o, rfl, hb, c0, _⟩ := R4.out.getD (k := 0) (by omega)
      obtain ⟨b', o', e', _, c1, _⟩ := R4.out.getD (k := m) (by omega)
      injection e' with e'
      injection e' with e1 e2
      subst e1; subst e2
      have ee : alikeB s.ents D.toNat = decide ((s.ents.getD 0 e0).1.toNat / 2 ^ (64 - D.toNat) = (s.ents.getD m e0).1.toNat / 2 ^ (64 - D.toNat)) := by
        unfold alikeB
        rw [HL.out, Nat.add_sub_cancel]
      rw [ee]
      simp only [Nat.zero_mul, Nat.add_zero] at c0
      have hx := UInt64.toNat_lt (s.ents.getD 0 e0).1
      have hy := UInt64.toNat_lt (s.ents.getD m e0).1
      generalize (s.ents.getD 0 e0).1.toNat = x at *
      generalize (s.ents.getD m e0).1.toNat = y at *
      have HX := Lib.hid hx; clear hx
      have HY := Lib.hid hy; clear hy
      have hi : ¬ (64 : Int) < (D.toNat : Int) := by omega
      have hj : (D.toNat : Int) ≤ 64 := by omega
      have h1i : ¬ (D.toNat : Int) ≤ (s.depth.toNat : Int) := by omega
      have h1d : decide (D.toNat ≤ s.depth.toNat) = false := decide_eq_false (by omega)
      have hm1 : ((m : Int) + 1 == 0) = false := by simp; omega
      have hmi : (m : Int) < 9 := by omega
      have hm0 : (0 : Int) ≤ (m : Int) := by omega
      have hlm : (m : Int) < (m : Int) + 1 := by omega
      have w1' : IntKind.i64.wrap (m : Int) = (m : Int) := IntWalk.i64_in _ (by omega)
      clear ee hle
      go_wp2_with fail
      go_quiet (fail)
      obtain ⟨W5, hW5⟩ : ∃ W5, W5 = w4.drewN nq := ⟨_, rfl⟩
      have B5 : Hid (Below w.heap.size w W5) := Lib.hid (by rw [hW5]; exact below_dN B4.out _)
      rw [← hW5]
      clear hW5 c0 c1 a0 a1 a2 B4 M4 R4
      go_wp2_with fail
      have hT : (64 : Int) - (D.toNat : Int) = ((64 - D.toNat : Nat) : Int) := by omega
      have HD : Hid (D.toNat ≤ 64) := Lib.hid (by omega)
      rw [hT]
      clear hT h64
      have hT64 : 64 - D.toNat ≤ 64 := by omega
      generalize 64 - D.toNat = T at *
      go_loop [7, 8, 62] (fun a b i => ∃ k : Nat, k ≤ T ∧ i = .int .i64 k ∧ a = .int .u64 ((x / 2 ^ k : Nat) : Int) ∧ b = .int .u64 ((y / 2 ^ k : Nat) : Int)) (fun _ _ i => T - (intOf i).toNat)
      case atStart => exact ⟨0, Nat.zero_le _, rfl, by simp, by simp⟩
      case round =>
        obtain ⟨k, hk, rfl, rfl, rfl⟩ := hrel
        by_cases hlt : k < T
        · have ex : x / 2 ^ (k + 1) = x / 2 ^ k / 2 := by rw [Nat.pow_succ, Nat.div_div_eq_div_mul]
          have ey : y / 2 ^ (k + 1) = y / 2 ^ k / 2 := by rw [Nat.pow_succ, Nat.div_div_eq_div_mul]
          have EX := Lib.hid ex; clear ex
          have EY := Lib.hid ey; clear ey
          obtain ⟨p, hp⟩ : ∃ p, p = x / 2 ^ k := ⟨_, rfl⟩
          obtain ⟨q, hq⟩ : ∃ q, q = y / 2 ^ k := ⟨_, rfl⟩
          rw [← hp] at EX ⊢
          rw [← hq] at EY ⊢
          have PX : Hid (p < 2 ^ 64) := Lib.hid (by rw [hp]; exact Nat.lt_of_le_of_lt (Nat.div_le_self _ _) HX.out)
          have QY : Hid (q < 2 ^ 64) := Lib.hid (by rw [hq]; exact Nat.lt_of_le_of_lt (Nat.div_le_self _ _) HY.out)
          clear hp hq
          go_wp2_with fail
          go_round
          case rel => exact ⟨k + 1, by omega, by go_num, by rw [EX.out]; have := PX.out; exact vint ((IntWalk.u64_in _ (by omega)).trans (by simp)), by rw [EY.out]; have := QY.out; exact vint ((IntWalk.u64_in _ (by omega)).trans (by simp))⟩
          case measure => simp [intOf]; omega
        · obtain rfl : k = T := by omega
          obtain ⟨p, hp⟩ : ∃ p, p = x / 2 ^ k := ⟨_, rfl⟩
          obtain ⟨q, hq⟩ : ∃ q, q = y / 2 ^ k := ⟨_, rfl⟩
          rw [← hp, ← hq]
          clear hp hq
          have he : ((p : Int) == (q : Int)) = decide (p = q) := by
            rw [Bool.eq_iff_iff]; simp; omega
          cases hz : decide (p = q)
          all_goals
            rw [hz] at he
            go_wp2_with fail
            refine (awake_any _).mono ?_
            rintro e w' ⟨rfl, hb⟩
            have B6 := Lib.hid (B5.out.trans (hb.mono B5.out.size)); clear hb
            go_wp2_with fail
            go_ret
            exact ⟨rfl, B6.out⟩

theorem lawDepth (s : Shelf) (A : Option Addr) (n c : Nat) (D : UInt8) (w : World) (h : ReadsE w A n s.ents) (hnc : n ≤ c) (hcm : c ≤ maxLen) :
    Calls Try.prog 7 #[sval s A n c, .int .u8 (D.toNat : Int)] w fun e w' => e = .returned (.bool true) ∧ Below w.heap.size w w' := by
  cases hr : rightB s
  · exact depth_out s A n c D w h (Nat.le_trans hnc hcm) (.inr hr)
  · have h9 := (rightB_iff.1 hr).2.2.1
    exact depth_in s A n c D w h (by have := h.1; omega) hr

end Go.Proofs.Ytcljobkdihbflaa
