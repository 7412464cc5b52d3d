/-
  DirOwn: the walk.
-/
import Derived.Test.YtlkmcjjdjbdihaaDrOwnP
import Derived.Test.YtlkmcjjdjbdihaaDrLWt
namespace Go.Proofs.Ytlkmcjjdjbdihaa
open Go.RowKit Go.Maps
set_option linter.unusedVariables false
set_option linter.unusedSimpArgs false
attribute [local go_sem ↓] Go.wp_at_zero Go.wp_at_succ

theorem three_of {X : World} {L H : Nat} {lo hi : Nat → Nat} {Af : Nat → Option Addr} {nf : Nat → Nat} (h : ∀ k, k < 3 → Mine X (lo k) (hi k) (Af k) (nf k)) : Three X X L H lo hi Af nf := ⟨h, rfl, rfl, rfl, rfl, fun _ _ => rfl⟩

set_option maxHeartbeats 4000000 in
set_option maxRecDepth 100000 in
theorem own_bad (d : Dir) (A : Option Addr) (n c : Nat) (w : World) (h : ReadsW w A n d.slots) (hn : n ≤ maxLen) (hr : rightB d = false) :
    Calls Try.prog 9 #[dval d A n c] w fun e w' => e = .returned (.bool true) ∧ Below w.heap.size w w' := by
  have K1 := Lib.hid hr
  have HR := Lib.hid h; clear h hr
  obtain ⟨W0, hW0⟩ : ∃ W0 : World, W0 = w.alloc (.cells #[.int .u8 (d.depth.toNat : Int), .slice A n c] 24) := ⟨_, rfl⟩
  have B0 : Hid (Below w.heap.size w W0) := Lib.hid (by rw [hW0]; exact (Below.refl _ w).alloc (Nat.le_refl _) _)
  have S0 : Hid (BoxD W0 w.heap.size d A n c) := Lib.hid (by rw [hW0]; exact BoxD.new w d A n c HR.out)
  have HW := Lib.hid hW0; clear hW0
  obtain ⟨a0, a1⟩ := S0.out.cells
  unfold dval
  go_enter Try.func9, Try.ntmps9
  go_upto_region 1 with fail
  rw [← HW.out]
  clear HW
  go_wp2_with fail
  rw [dval_eq]
  refine (right_any d A n c _ S0.out.rd hn).mono ?_
  rintro e w1 ⟨rfl, hb⟩
  rw [K1.out]
  have B1 := Lib.hid (B0.out.trans (hb.mono B0.out.size))
  clear hb a0 a1
  go_wp2_with fail
  refine (awake_any _).mono ?_
  rintro e w4 ⟨rfl, hb⟩
  have B4 := Lib.hid (B1.out.trans (hb.mono B1.out.size))
  go_wp2_with fail
  go_ret
  exact ⟨rfl, B4.out⟩

set_option maxHeartbeats 8000000 in
set_option maxRecDepth 100000 in
theorem own_good (d : Dir) (bd od n c m : Nat) (w : World) (h : ReadsW w (some ⟨bd, od, none⟩) n d.slots) (K1 : Hid (rightB d = true)) (K2 : Hid (bucketE d 0 = 0)) (K3 : Hid (bucketL d 0 = slotsR (0, m) m)) (n0 : 0 < n) (hn256 : n ≤ 256) (m0 : 0 < m) (hm : m ≤ 256) :
    Calls Try.prog 9 #[dval d (some ⟨bd, od, none⟩) n c] w fun e w' => e = .returned (.bool true) ∧ Below w.heap.size w w' := by
  have hn : n ≤ maxLen := Nat.le_trans hn256 (by decide)
  have HN := Lib.hid hn256
  have HL := Lib.hid h.1
  have HR := Lib.hid h; clear h
  obtain ⟨W0, hW0⟩ : ∃ W0 : World, W0 = w.alloc (.cells #[.int .u8 (d.depth.toNat : Int), .slice (some ⟨bd, od, none⟩) n c] 24) := ⟨_, rfl⟩
  have B0 : Hid (Below w.heap.size w W0) := Lib.hid (by rw [hW0]; exact (Below.refl _ w).alloc (Nat.le_refl _) _)
  have S0 : Hid (BoxD W0 w.heap.size d (some ⟨bd, od, none⟩) n c) := Lib.hid (by rw [hW0]; exact BoxD.new w d _ n c HR.out)
  have HW := Lib.hid hW0; clear hW0
  obtain ⟨a0, a1⟩ := S0.out.cells
  unfold dval
  go_enter Try.func9, Try.ntmps9
  go_upto_region 1 with fail
  rw [← HW.out]
  clear HW
  go_wp2_with fail
  rw [dval_eq]
  refine (right_any d _ n c _ S0.out.rd hn).mono ?_
  rintro e w1 ⟨rfl, hb⟩
  rw [K1.out]
  have B1 := Lib.hid (B0.out.trans (hb.mono B0.out.size))
  have S1 := Lib.hid (S0.out.keep hb)
  clear hb a0 a1
  obtain ⟨a0, a1⟩ := S1.out.cells
  have hls := S1.out.mem.at_.lt
  unfold dval
  go_wp2_with (at_builtin; refine wpList_appendC rfl _ _ 22 rfl w1.heap.size 26 (.int .u16 0) 1 2 Try.underlying22 u16info rfl (by omega) _ 0 [] rfl (own_nil16 w1) (some ⟨bd, od, none⟩) n c (wcells d.slots) rfl (by rw [wcells_length, HL.out]; omega) (S1.out.rd.2.keep ((Below.refl _ _).alloc (Nat.le_refl _) _)) (wcells_one _) (by simp only [maxLen]; omega) (by omega) (by simp) ?_)
  intro v3 w3 hown hgrow hnil hat
  have hb : Below w1.heap.size w1 w3 := ((Below.refl _ _).alloc (Nat.le_refl _) _).grown hgrow (by simp) (by intro k hk; simp [Value.ownBlock] at hk; omega)
  have hown : w3.ownsRow w1.heap.size 26 1 v3 n (wcells d.slots) := by simpa using hown
  obtain ⟨A3, c3, rfl, ow3⟩ := own_OwnW (l := d.slots) hown
  have B3 := Lib.hid (B1.out.trans (hb.mono B1.out.size))
  have S3 := Lib.hid (S1.out.keep hb)
  have O3 := Lib.hid ow3
  clear hown hgrow hnil hat hb ow3 a0 a1 hls
  obtain ⟨a0, a1⟩ := S3.out.cells
  have HB0 := Lib.hid (Below.refl w3.heap.size w3)
  go_wp2_with fail
  rw [dval_eq]
  refine (point_any d _ n c 0 0 9 _ S3.out.rd hn).mono ?_
  rintro e w4 hD
  obtain ⟨D1, A1, n1, c1, rfl, hm1, hl1, hb⟩ := retd_mine hD
  obtain ⟨V1, hV⟩ : ∃ W : World, W = w4.alloc (.cells #[.int .u8 D1, .slice A1 n1 c1] 24) := ⟨_, rfl⟩
  have bV : Below w4.heap.size w4 V1 := by rw [hV]; exact (Below.refl _ _).alloc (Nat.le_refl _) _
  have X1 : Hid (MemC V1 w4.heap.size 0 [.int .u8 D1, .slice A1 n1 c1]) := Lib.hid (by rw [hV]; exact MemC.new w4 [.int .u8 D1, .slice A1 n1 c1] 24)
  have M1_1 := Lib.hid (hm1.keep bV)
  have Z1 : Hid (w3.heap.size ≤ w4.heap.size ∧ w4.heap.size ≤ V1.heap.size) := Lib.hid ⟨hb.size, bV.size⟩
  have bb := hb.trans (bV.mono hb.size)
  have HB1 := Lib.hid (HB0.out.trans (bb.mono HB0.out.size))
  have HW := Lib.hid hV
  clear hD hm1 hb bV hV bb a0 a1
  go_upto_region 5 with fail
  rw [← HW.out]
  clear HW
  obtain ⟨a0, a1⟩ := (S3.out.keep HB1.out).cells
  go_wp2_with fail
  rw [dval_eq]
  refine (double_any d _ n c _ (S3.out.keep HB1.out).rd hn).mono ?_
  rintro e w5 hD
  obtain ⟨D2, A2, n2, c2, rfl, hm2, hl2, hb⟩ := retd_mine hD
  obtain ⟨V2, hV⟩ : ∃ W : World, W = w5.alloc (.cells #[.int .u8 D2, .slice A2 n2 c2] 24) := ⟨_, rfl⟩
  have bV : Below w5.heap.size w5 V2 := by rw [hV]; exact (Below.refl _ _).alloc (Nat.le_refl _) _
  have X2 : Hid (MemC V2 w5.heap.size 0 [.int .u8 D2, .slice A2 n2 c2]) := Lib.hid (by rw [hV]; exact MemC.new w5 [.int .u8 D2, .slice A2 n2 c2] 24)
  have M2_2 := Lib.hid (hm2.keep bV)
  have Z2 : Hid (V1.heap.size ≤ w5.heap.size ∧ w5.heap.size ≤ V2.heap.size) := Lib.hid ⟨hb.size, bV.size⟩
  have bb := hb.trans (bV.mono hb.size)
  have HB2 := Lib.hid (HB1.out.trans (bb.mono HB1.out.size))
  have M1_2 := Lib.hid (M1_1.out.keep bb)
  have X1_2 := Lib.hid (X1.out.keep bb)
  have HW := Lib.hid hV
  clear hD hm2 hb bV hV bb a0 a1
  go_upto_region 6 with fail
  rw [← HW.out]
  clear HW
  obtain ⟨a0, a1⟩ := (S3.out.keep HB2.out).cells
  go_wp2_with fail
  rw [dval_eq]
  refine (halve_any d _ n c _ (S3.out.keep HB2.out).rd hn).mono ?_
  rintro e w6 hD
  obtain ⟨D3, A3', n3, c3', rfl, hm3, hl3, hb⟩ := retd_mine hD
  obtain ⟨V3, hV⟩ : ∃ W : World, W = w6.alloc (.cells #[.int .u8 D3, .slice A3' n3 c3'] 24) := ⟨_, rfl⟩
  have bV : Below w6.heap.size w6 V3 := by rw [hV]; exact (Below.refl _ _).alloc (Nat.le_refl _) _
  have X3 : Hid (MemC V3 w6.heap.size 0 [.int .u8 D3, .slice A3' n3 c3']) := Lib.hid (by rw [hV]; exact MemC.new w6 [.int .u8 D3, .slice A3' n3 c3'] 24)
  have M3_3 := Lib.hid (hm3.keep bV)
  have Z3 : Hid (V2.heap.size ≤ w6.heap.size ∧ w6.heap.size ≤ V3.heap.size) := Lib.hid ⟨hb.size, bV.size⟩
  have bb := hb.trans (bV.mono hb.size)
  have HB3 := Lib.hid (HB2.out.trans (bb.mono HB2.out.size))
  have M1_3 := Lib.hid (M1_2.out.keep bb)
  have X1_3 := Lib.hid (X1_2.out.keep bb)
  have M2_3 := Lib.hid (M2_2.out.keep bb)
  have X2_3 := Lib.hid (X2.out.keep bb)
  have HW := Lib.hid hV
  clear hD hm3 hb bV hV bb a0 a1
  go_upto_region 7 with fail
  rw [← HW.out]
  clear HW
  obtain ⟨a0, a1⟩ := (S3.out.keep HB3.out).cells
  go_wp2_with fail
  rw [dval_eq]
  refine (Bucket_any d _ n c 0 _ (S3.out.keep HB3.out).rd hn).mono ?_
  rintro e w7 ⟨v7, rfl, hown, hb⟩
  rw [K3.out, slotsR_length] at hown
  rw [K2.out]
  obtain ⟨A7, c7, rfl, _, _, hc7⟩ := own_readsI hown
  have hrow : ∃ g, A7 = some ⟨g, 0, none⟩ ∧ V3.heap.size ≤ g ∧ MemC w7 g 0 (icells (slotsR (0, m) m)) := by
    rcases hown.2 with ⟨_, h3⟩ | ⟨g, cap, cur, e1, hg, hh, _⟩
    · omega
    · rw [e1] at hown
      injection e1 with e2 e3 e4
      exact ⟨g, e2, hg, (MemC.of_ownC hown).1⟩
  obtain ⟨gl, rfl, hgl, mgl⟩ := hrow
  have ML := Lib.hid mgl
  have HB7 := Lib.hid (HB3.out.trans (hb.mono HB3.out.size))
  have M1_7 := Lib.hid (M1_3.out.keep hb)
  have M2_7 := Lib.hid (M2_3.out.keep hb)
  have M3_7 := Lib.hid (M3_3.out.keep hb)
  have hgl2 := mgl.at_.lt
  obtain ⟨x1, _⟩ := (X1_3.out.keep hb).get 1 _ rfl
  obtain ⟨x2, _⟩ := (X2_3.out.keep hb).get 1 _ rfl
  obtain ⟨x3, _⟩ := (X3.out.keep hb).get 1 _ rfl
  have hZ7 := hb.size
  clear hown hb mgl a0 a1
  -- the three slices as one row
  obtain ⟨Af, hA0, hA1, hA2⟩ : ∃ Af : Nat → Option Addr, Af 0 = A1 ∧ Af 1 = A2 ∧ Af 2 = A3' := ⟨fun k => if k = 0 then A1 else if k = 1 then A2 else A3', rfl, rfl, rfl⟩
  obtain ⟨nf, hn0, hn1, hn2⟩ : ∃ nf : Nat → Nat, nf 0 = n1 ∧ nf 1 = n2 ∧ nf 2 = n3 := ⟨fun k => if k = 0 then n1 else if k = 1 then n2 else n3, rfl, rfl, rfl⟩
  obtain ⟨cf, hc0, hc1, hc2⟩ : ∃ cf : Nat → Nat, cf 0 = c1 ∧ cf 1 = c2 ∧ cf 2 = c3' := ⟨fun k => if k = 0 then c1 else if k = 1 then c2 else c3', rfl, rfl, rfl⟩
  obtain ⟨lo, hl0, hlo1, hlo2⟩ : ∃ lo : Nat → Nat, lo 0 = w3.heap.size ∧ lo 1 = V1.heap.size ∧ lo 2 = V2.heap.size := ⟨fun k => if k = 0 then w3.heap.size else if k = 1 then V1.heap.size else V2.heap.size, rfl, rfl, rfl⟩
  obtain ⟨hi, hh0, hh1, hh2⟩ : ∃ hi : Nat → Nat, hi 0 = w4.heap.size ∧ hi 1 = w5.heap.size ∧ hi 2 = w6.heap.size := ⟨fun k => if k = 0 then w4.heap.size else if k = 1 then w5.heap.size else w6.heap.size, rfl, rfl, rfl⟩
  have three : ∀ k, k < 3 → k = 0 ∨ k = 1 ∨ k = 2 := fun k hk => by omega
  have HAP : Hid (∀ j k, j < 3 → k < 3 → j ≠ k → hi j ≤ lo k ∨ hi k ≤ lo j) := Lib.hid (by
    obtain ⟨z1, z2⟩ := Z1.out
    obtain ⟨z3, z4⟩ := Z2.out
    obtain ⟨z5, z6⟩ := Z3.out
    intro j k hj hk hjk
    rcases three j hj with rfl | rfl | rfl <;> rcases three k hk with rfl | rfl | rfl <;> simp only [hl0, hlo1, hlo2, hh0, hh1, hh2] <;> omega)
  have HIN : Hid (∀ k, k < 3 → w3.heap.size ≤ lo k ∧ hi k ≤ V3.heap.size) := Lib.hid (by
    obtain ⟨z1, z2⟩ := Z1.out
    obtain ⟨z3, z4⟩ := Z2.out
    obtain ⟨z5, z6⟩ := Z3.out
    intro k hk
    rcases three k hk with rfl | rfl | rfl <;> simp only [hl0, hlo1, hlo2, hh0, hh1, hh2] <;> omega)
  have HNF : Hid (∀ k, k < 3 → nf k ≤ maxLen) := Lib.hid (by
    intro k hk
    rcases three k hk with rfl | rfl | rfl <;> simp only [hn0, hn1, hn2] <;> assumption)
  have HM7 : Hid (∀ k, k < 3 → Mine w7 (lo k) (hi k) (Af k) (nf k)) := Lib.hid (by
    intro k hk
    rcases three k hk with rfl | rfl | rfl
    · rw [hl0, hh0, hA0, hn0]; exact M1_7.out
    · rw [hlo1, hh1, hA1, hn1]; exact M2_7.out
    · rw [hlo2, hh2, hA2, hn2]; exact M3_7.out)
  rw [← hA0, ← hn0, ← hc0] at x1
  rw [← hA1, ← hn1, ← hc1] at x2
  rw [← hA2, ← hn2, ← hc2] at x3
  have HT := Lib.hid three
  have HZ7 := Lib.hid hZ7
  clear hA0 hA1 hA2 hn0 hn1 hn2 hc0 hc1 hc2 hl0 hlo1 hlo2 hh0 hh1 hh2 three hl1 hl2 hl3 hZ7
  obtain ⟨W8, hW8⟩ : ∃ W : World, W = w7.alloc (.cells #[.slice (Af 0) (nf 0) (cf 0), .slice (Af 1) (nf 1) (cf 1), .slice (Af 2) (nf 2) (cf 2)] 22) := ⟨_, rfl⟩
  have b8 : Below w7.heap.size w7 W8 := by rw [hW8]; exact (Below.refl _ _).alloc (Nat.le_refl _) _
  have GG : Hid (MemC W8 w7.heap.size 0 [.slice (Af 0) (nf 0) (cf 0), .slice (Af 1) (nf 1) (cf 1), .slice (Af 2) (nf 2) (cf 2)]) := Lib.hid (by rw [hW8]; exact MemC.new w7 _ _)
  have HM8 : Hid (∀ k, k < 3 → Mine W8 (lo k) (hi k) (Af k) (nf k)) := Lib.hid (fun k hk => (HM7.out k hk).keep b8)
  have ML8 := Lib.hid (ML.out.keep b8)
  have HB8 := Lib.hid (HB7.out.trans (b8.mono HB7.out.size))
  have HW := Lib.hid hW8
  clear b8 hW8
  go_upto_region 9 with fail
  rw [← HW.out]
  clear HW x1 x2 x3
  go_loopw [54] (fun i wr => ∃ k : Nat, k ≤ 3 ∧ i = .int .i64 (k : Int) ∧ Three W8 wr w3.heap.size V3.heap.size lo hi Af nf) (fun i _ => 3 - (intOf i).toNat)
  case atStart => exact ⟨0, Nat.zero_le _, rfl, three_of HM8.out⟩
  case round =>
    obtain ⟨k, hk, rfl, hT⟩ := hrel
    have HT3 := Lib.hid hT; clear hT
    by_cases hlt : k < 3
    · have h1 : (k : Int) < 3 := by omega
      have h2 : (0 : Int) ≤ (k : Int) := by omega
      have hck : wr.cell? ⟨w7.heap.size, k, none⟩ = some (.slice (Af k) (nf k) (cf k)) := by
        rw [HT3.out.cell (.inr HZ7.out)]
        rcases HT.out k hlt with rfl | rfl | rfl
        · exact (GG.out.get 0 _ rfl).1
        · exact (GG.out.get 1 _ rfl).1
        · exact (GG.out.get 2 _ rfl).1
      have hnk := HNF.out k hlt
      have HK := Lib.hid hlt
      obtain ⟨N, hN⟩ : ∃ N, N = nf k := ⟨_, rfl⟩
      obtain ⟨Ak, hAk⟩ : ∃ Ak, Ak = Af k := ⟨_, rfl⟩
      rw [← hN, ← hAk] at hck
      rw [← hN] at hnk
      generalize cf k = C at hck
      have HNk := Lib.hid hN; clear hN
      rcases Nat.eq_zero_or_pos N with rfl | hpos
      · clear hAk
        go_wp2_with fail
        go_loopw [60] (fun i wr' => i = .int .i64 0 ∧ wr' = wr) (fun _ _ => 0)
        case atStart => exact ⟨rfl, rfl⟩
        case round =>
          obtain ⟨rfl, rfl⟩ := hrel
          go_wp2_with fail
          go_roundw
          case rel => exact ⟨k + 1, by omega, by go_num, HT3.out⟩
          case measure => simp [intOf]; omega
      · obtain ⟨g0, v0, hg0, _⟩ := HT3.out.set HAP.out HIN.out HK.out (i := 0) (by rw [← HNk.out]; exact hpos) (.int .u16 7777)
        rw [hg0] at hAk
        subst hAk
        have HG0 := Lib.hid hg0; clear hg0
        unfold maxLen at hnk
        go_wp2_with fail
        go_loopw [60] (fun i wr' => ∃ j : Nat, j ≤ N ∧ i = .int .i64 (j : Int) ∧ Three W8 wr' w3.heap.size V3.heap.size lo hi Af nf) (fun i _ => N - (intOf i).toNat)
        case atStart => exact ⟨0, Nat.zero_le _, rfl, HT3.out⟩
        case round =>
          obtain ⟨j, hj, rfl, hT⟩ := hrel
          by_cases hjN : j < N
          · obtain ⟨g, v1, hg, cj, fj, hT2⟩ := hT.set HAP.out HIN.out HK.out (i := j) (by rw [← HNk.out]; exact hjN) (.int .u16 7777)
            rw [HG0.out] at hg
            injection hg with hg
            injection hg with hg _
            subst hg
            have HT4 := Lib.hid hT2
            have i1 : (j : Int) < (N : Int) := by omega
            have i0 : (0 : Int) ≤ (j : Int) := by omega
            clear hT hT2
            go_wp2_with fail
            go_roundw
            case rel => exact ⟨j + 1, by omega, by go_num, HT4.out⟩
            case measure => simp [intOf]; omega
          · obtain rfl : j = N := by omega
            have i1 : ¬ (j : Int) < (j : Int) := by omega
            have HT4 := Lib.hid hT; clear hT
            go_wp2_with fail
            go_roundw
            case rel => exact ⟨k + 1, by omega, by go_num, HT4.out⟩
            case measure => simp [intOf]; omega
    · obtain rfl : k = 3 := by omega
      have HB9 := Lib.hid (HB8.out.trans HT3.out.below)
      have ML9 : Hid (MemC wr gl 0 (icells (slotsR (0, m) m))) := Lib.hid (ML8.out.other (HT3.out.out gl (.inr hgl)) HT3.out.size)
      go_wp2_with fail
      go_loopw [70] (fun i wr' => ∃ j : Nat, j ≤ m ∧ i = .int .i64 (j : Int) ∧ (∃ xs, xs.length = m ∧ MemC wr' gl 0 xs) ∧ Only wr wr' gl gl) (fun i _ => m - (intOf i).toNat)
      case atStart => exact ⟨0, Nat.zero_le _, rfl, ⟨_, by rw [icells_length, slotsR_length], ML9.out⟩, ⟨rfl, rfl, rfl, rfl, fun _ _ _ => rfl⟩⟩
      case round =>
        rename_i wr'
        obtain ⟨j, hj, rfl, ⟨xs, hxs, hmx⟩, ho⟩ := hrel
        by_cases hjm : j < m
        · obtain ⟨cj, fj⟩ := hmx.get j _ (List.getElem?_eq_getElem (by omega))
          have hm2 := hmx.setAt j (by omega) (.int .i64 (-1))
          have HM2 := Lib.hid (show ∃ ys, ys.length = m ∧ MemC _ gl 0 ys from ⟨_, by rw [List.length_set]; exact hxs, hm2⟩)
          have HO := Lib.hid (ho.trans (Only.set _ gl gl j (.int .i64 (-1))))
          have i1 : (j : Int) < (m : Int) := by omega
          have i0 : (0 : Int) ≤ (j : Int) := by omega
          clear hmx hm2 ho
          go_wp2_with fail
          go_roundw
          case rel => exact ⟨j + 1, by omega, by go_num, HM2.out, HO.out⟩
          case measure => simp [intOf]; omega
        · obtain rfl : j = m := by omega
          have i1 : ¬ (j : Int) < (j : Int) := by omega
          have HBx := Lib.hid (HB9.out.trans (ho.below (by have := HB3.out.size; omega) (by have := HB3.out.size; omega)))
          clear hmx ho
          obtain ⟨a0, a1⟩ := (S3.out.keep HBx.out).cells
          go_wp2_with fail
          rw [dval_eq]
          refine (Bucket_any d _ n c 0 _ (S3.out.keep HBx.out).rd hn).mono ?_
          rintro e w10 ⟨v10, rfl, hown, hb⟩
          rw [K3.out, slotsR_length] at hown
          rw [K2.out]
          obtain ⟨A10, c10, rfl, hr10, _, hc10⟩ := own_readsI hown
          obtain ⟨b10, o10, rfl, _, z10⟩ := hr10.get (k := 0) (by rw [slotsR_length]; omega)
          have hz : (slotsR (0, j) j)[0]'(by rw [slotsR_length]; omega) = 0 := by simp [slotsR]
          rw [hz, Nat.add_zero] at z10
          have HBy := Lib.hid (HBx.out.trans (hb.mono HBx.out.size))
          clear hown hb hr10 a0 a1
          obtain ⟨a0, a1⟩ := (S3.out.keep HBy.out).cells
          have i2 : (0 : Int) < (j : Int) := by omega
          go_wp2_with fail
          refine (eqwords_any _ A3 n n c c3 d.slots d.slots _ (S3.out.keep HBy.out).rd (O3.out.keep HBy.out).1 hn hn).mono ?_
          rintro e w11 ⟨rfl, hq⟩
          rw [show sameW d.slots d.slots = true from sameW_iff.2 rfl]
          have HBz := Lib.hid (HBy.out.trans (hq.below.mono HBy.out.size))
          clear hq
          go_wp2_with fail
          refine (awake_any _).mono ?_
          rintro e w12 ⟨rfl, hb⟩
          have HBf := Lib.hid (B3.out.trans ((HBz.out.trans (hb.mono HBz.out.size)).mono B3.out.size))
          go_wp2_with fail
          go_ret
          exact ⟨rfl, HBf.out⟩

theorem lawOwn (d : Dir) (A : Option Addr) (n c : Nat) (w : World) (h : ReadsW w A n d.slots) (hn : n ≤ maxLen) :
    Calls Try.prog 9 #[dval d A n c] w fun e w' => e = .returned (.bool true) ∧ Below w.heap.size w w' := by
  cases hr : rightB d
  · exact own_bad d A n c w h hn hr
  · have hR := rightB_iff.1 hr
    obtain ⟨D, hD⟩ : ∃ D, D = d.depth.toNat := ⟨_, rfl⟩
    rw [← hD] at hR
    have hl : n = 2 ^ D := by rw [← h.1, hR.len]
    have hp := pow_pos2 D
    have hp8 := pow8 hR.le
    obtain ⟨bd, od, rfl, _, _⟩ := h.getD (k := 0) (by omega)
    obtain ⟨k, hk, f⟩ := hR.fit 0 hp
    obtain ⟨x1, x2, x3⟩ := bucket_fit hR hp hk f
    have hm8 := pow8 (D := D - k) (by have := hR.le; omega)
    refine own_good d bd od n c (2 ^ (D - k)) w h (Lib.hid hr) (Lib.hid x1) (Lib.hid ?_) (by omega) (by omega) (pow_pos2 _) hm8
    show slotsR (bucketR d ((0 : Nat) : Int)) ((bucketR d ((0 : Nat) : Int)).2 - (bucketR d ((0 : Nat) : Int)).1) = _
    rw [x3, Nat.zero_div, Nat.zero_mul, Nat.zero_add]
    rfl

end Go.Proofs.Ytlkmcjjdjbdihaa
