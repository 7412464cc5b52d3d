/-
  catchmentref04.Right.
-/
import Derived.Test.YtcljobkdihbflaaShR1
import Derived.Test.YtcljobkdihbflaaShI
import Derived.Deep.Cut
import Derived.BigQuiet
import Derived.Deep.QuietTactic
namespace Go.Proofs.Ytcljobkdihbflaa
open Go.RowKit
set_option linter.unusedVariables false
attribute [local go_sem ↓] Go.wp_at_zero Go.wp_at_succ

theorem refB_no {l : List Ent} {d n i : Nat} (hl : l.length = n) (hi : i < n) (h : refB l d i = false) : (upB l n && alikeB l d) = false := by
  subst hl
  rw [ref_all]
  cases hu : (List.range l.length).all (refB l d)
  · rfl
  · rw [List.all_eq_true] at hu
    rw [hu i (List.mem_range.2 hi)] at h
    cases h

set_option maxHeartbeats 2000000 in
theorem rright_pre (s : Shelf) (A : Option Addr) (n c : Nat) (w : World) (hl : s.ents.length = n) (hn : n ≤ maxLen) (h : ¬ (s.depth.toNat ≤ 64 ∧ s.next.toNat < 4096 ∧ n ≤ 9)) :
    Calls Try.prog 17 #[sval s A n c] w fun e w' => e = .returned (.bool (rightB s)) ∧ Below w.heap.size w w' := by
  have e : rightB s = false := by
    cases hr : rightB s
    · rfl
    · obtain ⟨h1, h2, h3, _⟩ := rightB_iff.1 hr
      exact absurd ⟨h1, h2, by omega⟩ h
  rw [e]
  unfold maxLen at hn
  unfold sval
  clear e hl
  generalize s.depth.toNat = d at *
  generalize s.next.toNat = x at *
  have h' : 64 < (d : Int) ∨ ((d : Int) ≤ 64 ∧ 4095 < (x : Int)) ∨ ((d : Int) ≤ 64 ∧ (x : Int) ≤ 4095 ∧ 9 < (n : Int)) := by omega
  clear h
  rcases h' with h | ⟨h, h1⟩ | ⟨h, h1, h2⟩
  all_goals
    go_enter Try.func17, Try.ntmps17
    go_wp2
    go_ret
    exact ⟨rfl, (Below.refl _ w).alloc (Nat.le_refl _) _⟩

set_option maxHeartbeats 8000000 in
set_option maxRecDepth 100000 in
theorem rright_in (s : Shelf) (A : Option Addr) (n c : Nat) (w : World) (h : ReadsE w A n s.ents) (hd : s.depth.toNat ≤ 64) (hx : s.next.toNat < 4096) (hn : n ≤ 9) :
    Calls Try.prog 17 #[sval s A n c] w fun e w' => e = .returned (.bool (rightB s)) ∧ Below w.heap.size w w' := by
  have HL := Lib.hid h.1
  have er : rightB s = (upB s.ents n && alikeB s.ents s.depth.toNat) := by
    unfold rightB
    rw [HL.out, decide_eq_true hd, decide_eq_true hx, decide_eq_true hn]
    rfl
  rw [er]
  clear er
  have HR := Lib.hid h; clear h
  unfold sval
  generalize hD : s.depth.toNat = D at *
  generalize hX : s.next.toNat = X at *
  generalize hE : s.ents = l at *
  clear hD hX hE
  have hd' : (D : Int) ≤ 64 := by omega
  have hx' : (X : Int) ≤ 4095 := by omega
  have hn' : (n : Int) ≤ 9 := by omega
  obtain ⟨W0, hW0⟩ : ∃ W0 : World, W0 = w.alloc (.cells #[.int .u8 (D : Int), .int .u32 (X : Int), .slice A n c] 25) := ⟨_, rfl⟩
  have B0 : Hid (Below w.heap.size w W0) := Lib.hid (by rw [hW0]; exact (Below.refl _ w).alloc (Nat.le_refl _) _)
  have M0 : Hid (MemC W0 w.heap.size 0 [.int .u8 (D : Int), .int .u32 (X : Int), .slice A n c]) := Lib.hid (by rw [hW0]; exact MemC.new w [.int .u8 (D : Int), .int .u32 (X : Int), .slice A n c] 25)
  have HR0 := Lib.hid (HR.out.keep B0.out)
  have HW := Lib.hid hW0; clear hW0
  go_enter Try.func17, Try.ntmps17
  go_wp2_with fail
  rw [← HW.out]
  clear HW
  go_loopw [3] (fun i wr => ∃ j : Nat, j ≤ n ∧ i = .int .i64 j ∧ (∀ q, q < j → refB l D q = true) ∧ Below W0.heap.size W0 wr) (fun i _ => n - (intOf i).toNat)
  case atStart => exact ⟨0, Nat.zero_le _, rfl, fun q hq => absurd hq (Nat.not_lt_zero q), Below.refl _ _⟩
  case round =>
    obtain ⟨j, hj, rfl, hu, hb⟩ := hrel
    have HU := Lib.hid hu; clear hu
    have HB := Lib.hid hb; clear hb
    obtain ⟨k0, _⟩ := (M0.out.keep HB.out).get 0 _ rfl
    obtain ⟨k2, _⟩ := (M0.out.keep HB.out).get 2 _ rfl
    by_cases hlt : j < n
    · obtain ⟨b, o, rfl, hbl, c0, c1⟩ := (HR0.out.keep HB.out).getD (k := j) hlt
      have hok : okB l j = (blkB (l.getD j e0) && (decide (j = 0) || eltB (l.getD (j - 1) e0) (l.getD j e0))) := rfl
      obtain ⟨E, hE⟩ : ∃ E, E = l.getD j e0 := ⟨_, rfl⟩
      rw [← hE] at c0 c1 hok
      have HEE := Lib.hid hE; clear hE
      obtain ⟨z, hz⟩ : ∃ z : Int, z = (E.2.toNat : Int) := ⟨_, rfl⟩
      have z0 : 0 ≤ z := by omega
      rw [← hz] at c1
      have HAH : Hid (∀ (F : Ent) (W : World), Calls Try.prog 31 #[eval F, .agg #[.int .u64 (E.1.toNat : Int), .int .u32 z]] W fun e w' => e = .returned (.bool (eltB F E)) ∧ Below W.heap.size W w') := Lib.hid (fun F W => by rw [hz]; exact ahead_any F E W)
      have HZ := Lib.hid hz
      by_cases hq0 : E.2.toNat = 0 ∨ 4096 ≤ E.2.toNat
      · have hno : refB l D j = false := by
          unfold refB
          have : blkB E = false := by unfold blkB; exact decide_eq_false (by omega)
          rw [hok, this]; rfl
        have HNO := Lib.hid (refB_no HL.out hlt hno)
        have HB3 := Lib.hid (B0.out.trans (HB.out.mono B0.out.size))
        clear hno hok
        rcases hq0 with hq0 | hq0
        · have t1 : z < 1 := by omega
          have t1b : decide (z < 1) = true := decide_eq_true t1
          clear hz
          clear hq0
          go_wp2_with fail
          go_quiet (fail)
          go_wp2_with fail
          go_ret
          rw [HNO.out]
          exact ⟨rfl, below_dN (HB3.out.alloc HB3.out.size _) _⟩
        · have t1 : ¬ z < 1 := by omega
          have t1b : decide (z < 1) = false := decide_eq_false t1
          have t2 : (4095 : Int) < z := by omega
          have t2b : decide ((4095 : Int) < z) = true := decide_eq_true t2
          clear hz
          clear hq0
          go_wp2_with fail
          go_quiet (fail)
          go_wp2_with fail
          go_ret
          rw [HNO.out]
          exact ⟨rfl, below_dN (HB3.out.alloc HB3.out.size _) _⟩
      · have hbk : blkB E = true := by unfold blkB; exact decide_eq_true (by omega)
        rw [hbk] at hok
        have t1 : ¬ z < 1 := by omega
        have t1b : decide (z < 1) = false := decide_eq_false t1
        have t2 : ¬ (4095 : Int) < z := by omega
        have t2b : decide ((4095 : Int) < z) = false := decide_eq_false t2
        clear hbk hq0 hz
        by_cases hk0 : j = 0
        · have HOK : Hid (okB l j = true) := Lib.hid (by rw [hok, decide_eq_true hk0]; rfl)
          have t3 : decide ((0 : Int) < (j : Int)) = false := by simp; omega
          have t4 : ¬ 0 < j := by omega
          clear hok hk0
          go_wp2_with fail
          go_quiet (fail)
          obtain ⟨V, hV⟩ : ∃ V : World, V = (wr.alloc (.cells #[.int .u64 (E.1.toNat : Int), .int .u32 z] 37)).drewN nq := ⟨_, rfl⟩
          have BV : Hid (Below W0.heap.size W0 V) := Lib.hid (by rw [hV]; exact below_dN (HB.out.alloc HB.out.size _) _)
          have ve0 : V.cell? ⟨wr.heap.size, 0, none⟩ = some (.int .u64 (E.1.toNat : Int)) := by rw [hV]; exact new_cell wr _ 37 _ rfl 0 _ rfl
          rw [← hV]
          clear hV c0 c1 k0 k2 t1 t1b t2 t2b t3 t4
          have hRV := HR0.out.keep BV.out
          obtain ⟨by0, oy0, ey0, _, y0, _⟩ := hRV.getD (k := 0) (by omega)
          injection ey0 with ey0
          injection ey0 with ey1 ey2
          subst ey1; subst ey2
          simp only [Nat.zero_mul, Nat.add_zero] at y0
          obtain ⟨v0, _⟩ := (M0.out.keep BV.out).get 0 _ rfl
          obtain ⟨v2, _⟩ := (M0.out.keep BV.out).get 2 _ rfl
          have hxlt := UInt64.toNat_lt E.1
          generalize hx0' : E.1.toNat = x at *
          have hx0 := hx0'.symm
          clear hx0'
          obtain ⟨y, hy0⟩ : ∃ y, y = (l.getD 0 e0).1.toNat := ⟨_, rfl⟩
          have HX64 : Hid (x < 2 ^ 64) := Lib.hid hxlt; clear hxlt
          have HY64 : Hid (y < 2 ^ 64) := Lib.hid (by rw [hy0]; exact UInt64.toNat_lt _)
          rw [← hy0] at y0
          have HX0 := Lib.hid hx0; clear hx0
          have HY0 := Lib.hid hy0; clear hy0
          have hn0 : (0 : Int) < (n : Int) := by omega
          clear hRV
          go_wp2_with fail
          go_loopw [5] (fun i wr' => ∃ m : Nat, m ≤ D ∧ i = .int .i64 m ∧ (∃ q, wr' = V.drewN q) ∧ ∀ t, t < m → bitN x t = bitN y t) (fun i _ => D - (intOf i).toNat)
          case atStart => exact ⟨0, Nat.zero_le _, rfl, ⟨0, rfl⟩, fun t ht => absurd ht (Nat.not_lt_zero t)⟩
          case round =>
            obtain ⟨m, hm, rfl, ⟨q, rfl⟩, hbits⟩ := hrel
            have HBITS := Lib.hid hbits; clear hbits
            by_cases hmD : m < D
            · have hm64 : m < 64 := by omega
              by_cases hpp : bitN x m = bitN y m
              · have ht : ((bitN x m : Int) != (bitN y m : Int)) = false := by rw [hpp]; simp
                have HPP := Lib.hid hpp; clear hpp
                go_wp2_with fail
                go_quiet ((go_at_call 32; first | exact (bit_any _ _ (by first | exact HX64.out | exact HY64.out) hm64 _).mono fun e w' hh => ⟨hh.1, _, hh.2.symm⟩ | exact Calls.quiet_of_same ((bit_any _ _ (by first | exact HX64.out | exact HY64.out) hm64 _).mono fun e w' hh => ⟨hh.1, hh.2.symm⟩) | exact quietL (bit_any _ _ (by first | exact HX64.out | exact HY64.out) hm64 _)))
                go_wp2_with fail
                go_roundw
                case rel =>
                  refine ⟨m + 1, by omega, by go_num, ⟨_, rfl⟩, fun t ht => ?_⟩
                  rcases Nat.lt_or_eq_of_le (Nat.lt_succ_iff.1 ht) with h | h
                  · exact HBITS.out t h
                  · subst h; exact HPP.out
                case measure => simp [intOf]; omega
              · have ht : ((bitN x m : Int) != (bitN y m : Int)) = true := by simp; omega
                have hno : refB l D j = false := by
                  unfold refB
                  rw [← HEE.out, ← HX0.out, ← HY0.out]
                  have : ¬ x / 2 ^ (64 - D) = y / 2 ^ (64 - D) := fun he => hpp (by exact (bits_iff x y HX64.out HY64.out D hd).2 he m hmD)
                  rw [decide_eq_false this, Bool.and_false]
                have HNO := Lib.hid (refB_no HL.out hlt hno)
                clear hpp hno
                go_wp2_with fail
                go_quiet ((go_at_call 32; first | exact (bit_any _ _ (by first | exact HX64.out | exact HY64.out) hm64 _).mono fun e w' hh => ⟨hh.1, _, hh.2.symm⟩ | exact Calls.quiet_of_same ((bit_any _ _ (by first | exact HX64.out | exact HY64.out) hm64 _).mono fun e w' hh => ⟨hh.1, hh.2.symm⟩) | exact quietL (bit_any _ _ (by first | exact HX64.out | exact HY64.out) hm64 _)))
                go_wp2_with fail
                go_ret
                rw [HNO.out]
                exact ⟨rfl, below_dN (below_dN (B0.out.trans (BV.out.mono B0.out.size)) _) _⟩
            · obtain rfl : m = D := by omega
              have hyes : refB l m j = true := by
                unfold refB
                rw [HOK.out, ← HEE.out, ← HX0.out, ← HY0.out]
                exact decide_eq_true ((bits_iff x y HX64.out HY64.out m hd).1 HBITS.out)
              have HYES := Lib.hid hyes; clear hyes
              go_wp2_with fail
              go_roundw
              case rel =>
                refine ⟨j + 1, by omega, by go_num, fun q hq => ?_, below_dN BV.out _⟩
                rcases Nat.lt_or_eq_of_le (Nat.lt_succ_iff.1 hq) with h | h
                · exact HU.out q h
                · subst h; exact HYES.out
              case measure => simp [intOf]; omega
        · obtain ⟨i, rfl⟩ : ∃ i, j = i + 1 := ⟨j - 1, by omega⟩
          obtain ⟨b', o', e', _, c2, c3⟩ := (HR0.out.keep HB.out).getD (k := i) (by omega)
          injection e' with e'
          injection e' with e1 e2
          subst e1; subst e2
          rw [show i + 1 - 1 = i by omega] at hok
          obtain ⟨F, hF⟩ : ∃ F, F = l.getD i e0 := ⟨_, rfl⟩
          rw [← hF] at c2 c3 hok
          clear hF hk0
          have hj0 : (0 : Int) ≤ (i : Int) := by omega
          have hjn : (i : Int) < (n : Int) := by omega
          have hjb : b < wr.heap.size := hbl
          have wj1 : IntKind.i64.wrap ((i : Int) + 1 - 1) = (i : Int) := by rw [IntWalk.i64_in _ (by omega)]; omega
          have wj2 : IntKind.i64.wrap (i : Int) = (i : Int) := IntWalk.i64_in _ (by omega)
          have kz0 := World.new_ne wr _ k2
          have hz1 : w.heap.size < wr.heap.size + 1 := by have := (M0.out.keep HB.out).at_.lt; omega
          have hz2 : b < wr.heap.size + 1 := by omega
          have HOK0 := Lib.hid hok; clear hok
          cases hel : eltB F E
          all_goals
            have HEL := Lib.hid hel
            clear hel
            go_wp2_with fail
            go_region_held3 (fun w' => w'.cell? ⟨w.heap.size, 2, none⟩ = some (.slice (some ⟨b, o, none⟩) n c) ∧ w'.cell? ⟨b, o + i * 2, none⟩ = some (.int .u64 (F.1.toNat : Int)) ∧ w'.cell? ⟨b, o + i * 2 + 1, none⟩ = some (.int .u32 (F.2.toNat : Int)) ∧ w'.cell? ⟨wr.heap.size, 0, none⟩ = some (.int .u64 (E.1.toNat : Int)) ∧ w'.cell? ⟨wr.heap.size, 1, none⟩ = some (.int .u32 z))
              (go_keep)
              ((go_at_call 31; refine (HAH.out F _).mono ?_; rw [HEL.out]; rintro e V ⟨rfl, hb2⟩; obtain ⟨hc2, _⟩ := bcell hb2))
            have BV : Hid (Below W0.heap.size W0 V) := Lib.hid ((HB.out.alloc HB.out.size _).drew.trans (hb2.mono (HB.out.alloc HB.out.size _).drew.size))
            have ve0 : V.cell? ⟨wr.heap.size, 0, none⟩ = some (.int .u64 (E.1.toNat : Int)) := (hb2.cell (p := ⟨wr.heap.size, 0, none⟩) (by show wr.heap.size < _; simp)).trans (new_cell wr _ 37 _ rfl 0 _ rfl)
            clear hb2 hc2 c0 c1 c2 c3 hz1 hz2 kz0 wj1 wj2 k0 k2 t1 t1b t2 t2b
          · have HNO := Lib.hid (refB_no HL.out hlt (show refB l D (i + 1) = false by unfold refB; rw [HOK0.out, HEL.out]; simp))
            go_wp2_with fail
            go_ret
            rw [HNO.out]
            exact ⟨rfl, B0.out.trans (BV.out.mono B0.out.size)⟩
          · have HOK : Hid (okB l (i + 1) = true) := Lib.hid (by rw [HOK0.out, HEL.out]; simp)
            obtain ⟨j, hjj⟩ : ∃ j, j = i + 1 := ⟨_, rfl⟩
            have HJJ := Lib.hid hjj
            have ecast : ((i + 1 : Nat) : Int) = (j : Int) := by rw [hjj]
            have hRV := HR0.out.keep BV.out
            obtain ⟨by0, oy0, ey0, _, y0, _⟩ := hRV.getD (k := 0) (by omega)
            injection ey0 with ey0
            injection ey0 with ey1 ey2
            subst ey1; subst ey2
            simp only [Nat.zero_mul, Nat.add_zero] at y0
            obtain ⟨v0, _⟩ := (M0.out.keep BV.out).get 0 _ rfl
            obtain ⟨v2, _⟩ := (M0.out.keep BV.out).get 2 _ rfl
            have hxlt := UInt64.toNat_lt E.1
            generalize hx0' : E.1.toNat = x at *
            have hx0 := hx0'.symm
            clear hx0'
            obtain ⟨y, hy0⟩ : ∃ y, y = (l.getD 0 e0).1.toNat := ⟨_, rfl⟩
            have HX64 : Hid (x < 2 ^ 64) := Lib.hid hxlt; clear hxlt
            have HY64 : Hid (y < 2 ^ 64) := Lib.hid (by rw [hy0]; exact UInt64.toNat_lt _)
            rw [← hy0] at y0
            have HX0 := Lib.hid hx0; clear hx0
            have HY0 := Lib.hid hy0; clear hy0
            clear hjj ecast HJJ j
            have hn0 : (0 : Int) < (n : Int) := by omega
            clear hRV
            go_wp2_with fail
            go_loopw [5] (fun i wr' => ∃ m : Nat, m ≤ D ∧ i = .int .i64 m ∧ (∃ q, wr' = V.drewN q) ∧ ∀ t, t < m → bitN x t = bitN y t) (fun i _ => D - (intOf i).toNat)
            case atStart => exact ⟨0, Nat.zero_le _, rfl, ⟨0, rfl⟩, fun t ht => absurd ht (Nat.not_lt_zero t)⟩
            case round =>
              obtain ⟨m, hm, rfl, ⟨q, rfl⟩, hbits⟩ := hrel
              have HBITS := Lib.hid hbits; clear hbits
              by_cases hmD : m < D
              · have hm64 : m < 64 := by omega
                by_cases hpp : bitN x m = bitN y m
                · have ht : ((bitN x m : Int) != (bitN y m : Int)) = false := by rw [hpp]; simp
                  have HPP := Lib.hid hpp; clear hpp
                  go_wp2_with fail
                  go_quiet ((go_at_call 32; first | exact (bit_any _ _ (by first | exact HX64.out | exact HY64.out) hm64 _).mono fun e w' hh => ⟨hh.1, _, hh.2.symm⟩ | exact Calls.quiet_of_same ((bit_any _ _ (by first | exact HX64.out | exact HY64.out) hm64 _).mono fun e w' hh => ⟨hh.1, hh.2.symm⟩) | exact quietL (bit_any _ _ (by first | exact HX64.out | exact HY64.out) hm64 _)))
                  go_wp2_with fail
                  go_roundw
                  case rel =>
                    refine ⟨m + 1, by omega, by go_num, ⟨_, rfl⟩, fun t ht => ?_⟩
                    rcases Nat.lt_or_eq_of_le (Nat.lt_succ_iff.1 ht) with h | h
                    · exact HBITS.out t h
                    · subst h; exact HPP.out
                  case measure => simp [intOf]; omega
                · have ht : ((bitN x m : Int) != (bitN y m : Int)) = true := by simp; omega
                  have hno : refB l D (i + 1) = false := by
                    unfold refB
                    rw [← HEE.out, ← HX0.out, ← HY0.out]
                    have : ¬ x / 2 ^ (64 - D) = y / 2 ^ (64 - D) := fun he => hpp (by exact (bits_iff x y HX64.out HY64.out D hd).2 he m hmD)
                    rw [decide_eq_false this, Bool.and_false]
                  have HNO := Lib.hid (refB_no HL.out hlt hno)
                  clear hpp hno
                  go_wp2_with fail
                  go_quiet ((go_at_call 32; first | exact (bit_any _ _ (by first | exact HX64.out | exact HY64.out) hm64 _).mono fun e w' hh => ⟨hh.1, _, hh.2.symm⟩ | exact Calls.quiet_of_same ((bit_any _ _ (by first | exact HX64.out | exact HY64.out) hm64 _).mono fun e w' hh => ⟨hh.1, hh.2.symm⟩) | exact quietL (bit_any _ _ (by first | exact HX64.out | exact HY64.out) hm64 _)))
                  go_wp2_with fail
                  go_ret
                  rw [HNO.out]
                  exact ⟨rfl, below_dN (below_dN (B0.out.trans (BV.out.mono B0.out.size)) _) _⟩
              · obtain rfl : m = D := by omega
                have hyes : refB l m (i + 1) = true := by
                  unfold refB
                  rw [HOK.out, ← HEE.out, ← HX0.out, ← HY0.out]
                  exact decide_eq_true ((bits_iff x y HX64.out HY64.out m hd).1 HBITS.out)
                have HYES := Lib.hid hyes; clear hyes
                go_wp2_with fail
                go_roundw
                case rel =>
                  refine ⟨i + 1 + 1, by omega, by go_num, fun q hq => ?_, below_dN BV.out _⟩
                  rcases Nat.lt_or_eq_of_le (Nat.lt_succ_iff.1 hq) with h | h
                  · exact HU.out q h
                  · subst h; exact HYES.out
                case measure => simp [intOf]; omega

    · obtain rfl : j = n := by omega
      go_wp2_with fail
      go_ret
      have e : (upB l j && alikeB l D) = true := by
        rw [← HL.out, ref_all, List.all_eq_true]
        intro q hq
        exact HU.out q (by have := List.mem_range.1 hq; have := HL.out; omega)
      rw [e]
      exact ⟨rfl, B0.out.trans (HB.out.mono B0.out.size)⟩

theorem rright_any (s : Shelf) (A : Option Addr) (n c : Nat) (w : World) (h : ReadsE w A n s.ents) (hn : n ≤ maxLen) :
    Calls Try.prog 17 #[sval s A n c] w fun e w' => e = .returned (.bool (rightB s)) ∧ Below w.heap.size w w' := by
  by_cases hp : s.depth.toNat ≤ 64 ∧ s.next.toNat < 4096 ∧ n ≤ 9
  · exact rright_in s A n c w h hp.1 hp.2.1 hp.2.2
  · exact rright_pre s A n c w h.1 hn hp

end Go.Proofs.Ytcljobkdihbflaa
