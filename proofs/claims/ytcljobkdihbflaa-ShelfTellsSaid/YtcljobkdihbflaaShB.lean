/-
  shelf.alike, shelf.Right.
-/
import Derived.Test.YtcljobkdihbflaaShA
import Derived.BigQuiet
import Derived.Deep.QuietTactic
namespace Go.Proofs.Ytcljobkdihbflaa
open Go.RowKit
set_option linter.unusedVariables false
attribute [local go_sem ↓] Go.wp_at_zero Go.wp_at_succ

theorem xor_alike (x y k : Nat) (hx : x < 2 ^ 64) (hy : y < 2 ^ 64) : (bits .xor .u64 (x : Int) (y : Int) / 2 ^ k == 0) = decide (x / 2 ^ k = y / 2 ^ k) := by
  rw [u64_xor_nat x y (by omega) (by omega), Bool.eq_iff_iff, beq_iff_eq, decide_eq_true_eq]
  have e : ((x ^^^ y : Nat) : Int) / 2 ^ k = (((x ^^^ y) / 2 ^ k : Nat) : Int) := by simp
  rw [e, Nat.xor_div_two_pow]
  constructor
  · intro h
    have h : x / 2 ^ k ^^^ y / 2 ^ k = 0 := by omega
    have e2 : x / 2 ^ k = x / 2 ^ k ^^^ y / 2 ^ k ^^^ y / 2 ^ k := by rw [Nat.xor_assoc, Nat.xor_self, Nat.xor_zero]
    rw [e2, h, Nat.zero_xor]
  · intro h
    rw [h, Nat.xor_self]
    rfl

set_option maxHeartbeats 1000000 in
theorem alike_any (A : Option Addr) (n c : Nat) (d : UInt8) (l : List Ent) (w : World) (h : ReadsE w A n l) (hn : n ≤ maxLen) (hd : d.toNat ≤ 64) :
    Calls Try.prog 19 #[.slice A n c, .int .u8 (d.toNat : Int)] w fun e w' => e = .returned (.bool (alikeB l d.toNat)) ∧ Below w.heap.size w w' := by
  unfold maxLen at hn
  have hl := h.1
  by_cases h0 : n = 0
  · subst h0
    have : l = [] := List.eq_nil_of_length_eq_zero hl
    subst this
    have e : alikeB [] d.toNat = true := by simp [alikeB]
    rw [e]
    clear e hl h
    go_enter Try.func19, Try.ntmps19
    go_wp2
    go_ret
    exact ⟨rfl, Below.refl _ _⟩
  · by_cases hd0 : d.toNat = 0
    · have e : alikeB l d.toNat = true := by
        unfold alikeB
        rw [hd0]
        apply decide_eq_true
        have h1 := UInt64.toNat_lt (l.getD 0 e0).1
        have h2 := UInt64.toNat_lt (l.getD (l.length - 1) e0).1
        omega
      rw [e]
      have hdi : (d.toNat : Int) = 0 := by omega
      clear e hl h
      go_enter Try.func19, Try.ntmps19
      go_wp2
      go_ret
      exact ⟨rfl, Below.refl _ _⟩
    · obtain ⟨m, rfl⟩ : ∃ m, n = m + 1 := ⟨n - 1, by omega⟩
      obtain ⟨b, o, rfl, hb, c0, _⟩ := h.getD (k := 0) (by omega)
      obtain ⟨b', o', e', _, c1, _⟩ := h.getD (k := m) (by omega)
      injection e' with e'
      injection e' with e1 e2
      subst e1; subst e2
      have ee : alikeB l d.toNat = decide ((l.getD 0 e0).1.toNat / 2 ^ (64 - d.toNat) = (l.getD m e0).1.toNat / 2 ^ (64 - d.toNat)) := by
        unfold alikeB
        rw [hl, Nat.add_sub_cancel]
      rw [ee]
      simp only [Nat.zero_mul, Nat.add_zero] at c0
      clear ee h hl
      have hx := UInt64.toNat_lt (l.getD 0 e0).1
      have hy := UInt64.toNat_lt (l.getD m e0).1
      generalize (l.getD 0 e0).1.toNat = x at *
      generalize (l.getD m e0).1.toNat = y at *
      generalize d.toNat = D at *
      have hD : (0 : Int) ≤ (D : Int) := by omega
      have t1 : ((m : Int) + 1 == 0) = false := by simp; omega
      have t2 : ((D : Int) == 0) = false := by simp; omega
      have hD1 : (D : Int) ≤ 64 := by omega
      go_enter Try.func19, Try.ntmps19
      go_wp2
      go_quiet (fail)
      go_wp2
      go_ret
      rw [← xor_alike x y (64 - D) hx hy]
      exact ⟨rfl, bdn _ _⟩

/-- A shelf's value. -/
def sval (s : Shelf) (A : Option Addr) (n c : Nat) : Value := .agg #[.int .u8 (s.depth.toNat : Int), .int .u32 (s.next.toNat : Int), .slice A n c]

set_option maxHeartbeats 2000000 in
theorem right_pre (s : Shelf) (A : Option Addr) (n c : Nat) (w : World) (hl : s.ents.length = n) (hn : n ≤ maxLen) (h : ¬ (s.depth.toNat ≤ 64 ∧ s.next.toNat < 4096 ∧ n ≤ 9)) :
    Calls Try.prog 8 #[sval s A n c] w fun e w' => e = .returned (.bool (rightB s)) ∧ Below w.heap.size w w' := by
  have e : rightB s = false := by
    cases hr : rightB s
    · rfl
    · obtain ⟨h1, h2, h3, _⟩ := rightB_iff.1 hr
      exact absurd ⟨h1, h2, by omega⟩ h
  rw [e]
  unfold maxLen at hn
  unfold sval
  clear e hl
  generalize s.depth.toNat = d at *
  generalize s.next.toNat = x at *
  have h' : 64 < (d : Int) ∨ ((d : Int) ≤ 64 ∧ 4096 ≤ (x : Int)) ∨ ((d : Int) ≤ 64 ∧ (x : Int) < 4096 ∧ 9 < (n : Int)) := by omega
  clear h
  rcases h' with h | ⟨h, h1⟩ | ⟨h, h1, h2⟩
  all_goals
    go_enter Try.func8, Try.ntmps8
    go_wp2
    go_ret
    exact ⟨rfl, (Below.refl _ w).alloc (Nat.le_refl _) _⟩

set_option maxHeartbeats 4000000 in
set_option maxRecDepth 100000 in
theorem right_in (s : Shelf) (A : Option Addr) (n c : Nat) (w : World) (h : ReadsE w A n s.ents) (hd : s.depth.toNat ≤ 64) (hx : s.next.toNat < 4096) (hn : n ≤ 9) :
    Calls Try.prog 8 #[sval s A n c] w fun e w' => e = .returned (.bool (rightB s)) ∧ Below w.heap.size w w' := by
  have HL := Lib.hid h.1
  have er : rightB s = (upB s.ents n && alikeB s.ents s.depth.toNat) := by
    unfold rightB
    rw [HL.out, decide_eq_true hd, decide_eq_true hx, decide_eq_true hn]
    rfl
  rw [er]
  clear er
  have HR := Lib.hid h; clear h
  unfold sval
  generalize hD : s.depth = D at *
  generalize hX : s.next.toNat = X at *
  generalize hE : s.ents = l at *
  clear hD hX hE
  have hd' : (D.toNat : Int) ≤ 64 := by omega
  have hx' : (X : Int) < 4096 := by omega
  have hn' : (n : Int) ≤ 9 := by omega
  obtain ⟨W0, hW0⟩ : ∃ W0 : World, W0 = w.alloc (.cells #[.int .u8 (D.toNat : Int), .int .u32 (X : Int), .slice A n c] 25) := ⟨_, rfl⟩
  have B0 : Hid (Below w.heap.size w W0) := Lib.hid (by rw [hW0]; exact (Below.refl _ w).alloc (Nat.le_refl _) _)
  have z0 : w.heap.size + 1 = W0.heap.size := by rw [hW0]; simp
  have k0 : W0.cell? ⟨w.heap.size, 0, none⟩ = some (.int .u8 (D.toNat : Int)) := by rw [hW0]; simp
  have k2 : W0.cell? ⟨w.heap.size, 2, none⟩ = some (.slice A n c) := by rw [hW0]; simp
  have HR0 := Lib.hid (HR.out.keep B0.out)
  have Z0 := Lib.hid z0; clear z0
  have K0 := Lib.hid k0; clear k0
  have K2 := Lib.hid k2; clear k2
  go_enter Try.func8, Try.ntmps8
  go_wp2_with fail
  rw [← hW0]
  clear hW0
  go_loopw [22] (fun i wr => ∃ k : Nat, k ≤ n ∧ i = .int .i64 k ∧ upB l k = true ∧ Below W0.heap.size W0 wr) (fun i _ => n - (intOf i).toNat)
  case atStart => exact ⟨0, Nat.zero_le _, rfl, rfl, Below.refl _ _⟩
  case round =>
    obtain ⟨k, hk, rfl, hu, hb⟩ := hrel
    have HU := Lib.hid hu; clear hu
    have HB := Lib.hid hb
    have kk0 := (hb.cell (p := ⟨w.heap.size, 0, none⟩) (by have := Z0.out; show w.heap.size < _; omega)).trans K0.out
    have kk2 := (hb.cell (p := ⟨w.heap.size, 2, none⟩) (by have := Z0.out; show w.heap.size < _; omega)).trans K2.out
    clear hb
    by_cases hlt : k < n
    · obtain ⟨b, o, rfl, hbl, c0, c1⟩ := (HR0.out.keep HB.out).getD (k := k) hlt
      have hok : okB l k = (blkB (l.getD k e0) && (decide (k = 0) || eltB (l.getD (k - 1) e0) (l.getD k e0))) := rfl
      have HOK := Lib.hid hok; clear hok
      have hq := UInt32.toNat_lt (l.getD k e0).2
      obtain ⟨E, hE⟩ : ∃ E, E = l.getD k e0 := ⟨_, rfl⟩
      rw [← hE] at c0 c1 HOK hq
      have HE := Lib.hid hE; clear hE
      by_cases hq0 : E.2.toNat = 0 ∨ 4096 ≤ E.2.toNat
      · have hf : upB l n = false := by
          refine upB_no hlt ?_
          rw [HOK.out]
          have : blkB E = false := by unfold blkB; exact decide_eq_false (by omega)
          rw [this]; rfl
        have HF := Lib.hid hf
        clear hf HOK
        have HB3 := Lib.hid (B0.out.trans (HB.out.mono B0.out.size))
        rcases hq0 with hq0 | hq0
        · have t1 : ((E.2.toNat : Int) == 0) = true := by simp; omega
          clear hq0
          go_wp2_with fail
          go_quiet (fail)
          go_wp2_with fail
          go_ret
          rw [HF.out]
          exact ⟨rfl, below_dN (HB3.out.alloc HB3.out.size _) _⟩
        · have t1 : ((E.2.toNat : Int) == 0) = false := by simp; omega
          have t2 : (4096 : Int) ≤ (E.2.toNat : Int) := by omega
          clear hq0
          go_wp2_with fail
          go_quiet (fail)
          go_wp2_with fail
          go_ret
          rw [HF.out]
          exact ⟨rfl, below_dN (HB3.out.alloc HB3.out.size _) _⟩
      · have hbk : blkB E = true := by unfold blkB; exact decide_eq_true (by omega)
        rw [hbk] at HOK
        have t1 : ((E.2.toNat : Int) == 0) = false := by simp; omega
        have t2 : ¬ (4096 : Int) ≤ (E.2.toNat : Int) := by omega
        have t2b : decide ((4096 : Int) ≤ (E.2.toNat : Int)) = false := decide_eq_false t2
        clear hbk
        by_cases hk0 : k = 0
        · have hu1 : upB l (k + 1) = true := by rw [upB_succ, HU.out, HOK.out, hk0]; rfl
          have HU1 := Lib.hid hu1
          have t3 : decide ((0 : Int) < (k : Int)) = false := by simp; omega
          have t4 : ¬ 0 < k := by omega
          clear hu1 HOK hq0 hk0
          go_wp2_with fail
          go_quiet (fail)
          go_wp2_with fail
          go_roundw
          case rel => exact ⟨k + 1, by omega, by go_num, HU1.out, below_dN (HB.out.alloc HB.out.size _) _⟩
          case measure => simp [intOf]; omega
        · obtain ⟨j, rfl⟩ : ∃ j, k = j + 1 := ⟨k - 1, by omega⟩
          obtain ⟨b', o', e', _, c2, c3⟩ := (HR0.out.keep HB.out).getD (k := j) (by omega)
          injection e' with e'
          injection e' with e1 e2
          subst e1; subst e2
          rw [show j + 1 - 1 = j by omega] at HOK
          obtain ⟨F, hF⟩ : ∃ F, F = l.getD j e0 := ⟨_, rfl⟩
          rw [← hF] at c2 c3 HOK
          clear hF hq0 hk0
          have hj : (0 : Int) ≤ (j : Int) := by omega
          have hjn : (j : Int) < (n : Int) := by omega
          have hjb : b < wr.heap.size := hbl
          have wj1 : IntKind.i64.wrap ((j : Int) + 1 - 1) = (j : Int) := by rw [IntWalk.i64_in _ (by omega)]; omega
          have wj2 : IntKind.i64.wrap (j : Int) = (j : Int) := IntWalk.i64_in _ (by omega)
          have kz0 := World.new_ne wr _ kk2
          have hz1 : w.heap.size < wr.heap.size + 1 := by have := HB.out.size; have := Z0.out; omega
          have hz2 : b < wr.heap.size + 1 := by omega
          by_cases hlt2 : eltB F E = true
          · have ho : ¬ (0 : Int) ≤ ordI F E := by rw [ordI_iff, hlt2]; simp
            have hod : decide ((0 : Int) ≤ ordI F E) = false := decide_eq_false ho
            have hu1 : upB l (j + 1 + 1) = true := by rw [upB_succ, HU.out, HOK.out, hlt2]; simp
            have HU1 := Lib.hid hu1
            clear hu1 hlt2 HOK
            go_wp2_with fail
            go_region_held3 (fun w' => w'.cell? ⟨w.heap.size, 2, none⟩ = some (.slice (some ⟨b, o, none⟩) n c) ∧ w'.cell? ⟨b, o + j * 2, none⟩ = some (.int .u64 (F.1.toNat : Int)) ∧ w'.cell? ⟨b, o + j * 2 + 1, none⟩ = some (.int .u32 (F.2.toNat : Int)) ∧ w'.cell? ⟨wr.heap.size, 0, none⟩ = some (.int .u64 (E.1.toNat : Int)) ∧ w'.cell? ⟨wr.heap.size, 1, none⟩ = some (.int .u32 (E.2.toNat : Int)))
              (go_keep)
              ((go_at_call 18; refine (order_any F E _).mono ?_; rintro e w' ⟨rfl, hb2⟩; obtain ⟨hc2, _⟩ := bcell hb2))
            have HB2 : Hid (Below W0.heap.size W0 w') := Lib.hid ((HB.out.alloc HB.out.size _).drew.trans (hb2.mono (HB.out.alloc HB.out.size _).drew.size))
            clear hb2 hc2 c0 c1 c2 c3 hz1 hz2 kz0 wj1 wj2 kk0 kk2
            go_wp2_with fail
            go_roundw
            case rel => exact ⟨j + 1 + 1, by omega, by go_num, HU1.out, HB2.out⟩
            case measure => simp [intOf]; omega
          · have hlt3 : eltB F E = false := by simpa using hlt2
            have ho : (0 : Int) ≤ ordI F E := (ordI_iff F E).2 hlt3
            have hf : upB l n = false := upB_no hlt (by rw [HOK.out, hlt3]; simp)
            have HF := Lib.hid hf
            clear hf hlt2 hlt3 HOK
            go_wp2_with fail
            go_region_held3 (fun w' => w'.cell? ⟨w.heap.size, 2, none⟩ = some (.slice (some ⟨b, o, none⟩) n c) ∧ w'.cell? ⟨b, o + j * 2, none⟩ = some (.int .u64 (F.1.toNat : Int)) ∧ w'.cell? ⟨b, o + j * 2 + 1, none⟩ = some (.int .u32 (F.2.toNat : Int)) ∧ w'.cell? ⟨wr.heap.size, 0, none⟩ = some (.int .u64 (E.1.toNat : Int)) ∧ w'.cell? ⟨wr.heap.size, 1, none⟩ = some (.int .u32 (E.2.toNat : Int)))
              (go_keep)
              ((go_at_call 18; refine (order_any F E _).mono ?_; rintro e w' ⟨rfl, hb2⟩; obtain ⟨hc2, _⟩ := bcell hb2))
            have HB2 : Hid (Below W0.heap.size W0 w') := Lib.hid ((HB.out.alloc HB.out.size _).drew.trans (hb2.mono (HB.out.alloc HB.out.size _).drew.size))
            clear hb2 hc2 c0 c1 c2 c3 hz1 hz2 kz0 wj1 wj2 kk0 kk2
            go_wp2_with fail
            go_ret
            rw [HF.out]
            exact ⟨rfl, B0.out.trans (HB2.out.mono B0.out.size)⟩
    · obtain rfl : k = n := by omega
      go_wp2_with fail
      refine (alike_any A k c D l _ (HR0.out.keep HB.out) (by simp only [maxLen]; omega) hd).mono ?_
      rintro e w' ⟨rfl, hb2⟩
      have HB2 := Lib.hid (B0.out.trans ((HB.out.trans (hb2.mono HB.out.size)).mono B0.out.size)); clear hb2
      go_wp2_with fail
      go_ret
      rw [HU.out]
      exact ⟨rfl, HB2.out⟩

theorem right_any (s : Shelf) (A : Option Addr) (n c : Nat) (w : World) (h : ReadsE w A n s.ents) (hn : n ≤ maxLen) :
    Calls Try.prog 8 #[sval s A n c] w fun e w' => e = .returned (.bool (rightB s)) ∧ Below w.heap.size w w' := by
  by_cases hp : s.depth.toNat ≤ 64 ∧ s.next.toNat < 4096 ∧ n ≤ 9
  · exact right_in s A n c w h hp.1 hp.2.1 hp.2.2
  · exact right_pre s A n c w h.1 hn hp

end Go.Proofs.Ytcljobkdihbflaa
