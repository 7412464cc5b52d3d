/-
  The document's functions: Bytes, whose bytes are owned; Right.
-/
import Derived.Test.YtfnoeligaapnbaaSuK
import Derived.Test.YtfnoeligaapnbaaOctT
import Derived.Test.YtfnoeligaapnbaaOctX2
namespace Go.Proofs.Ytfnoeligaapnbaa
open Go.RowKit
set_option linter.unusedVariables false
set_option linter.unusedSimpArgs false
attribute [local go_sem ↓] Go.wp_at_zero Go.wp_at_succ

theorem own_of_mem8 {w : World} {g n base : Nat} {l : List UInt8} {cs : Array Value} {e : TypeId} (hg : base ≤ g) (hh : w.heap[g]? = some (.cells cs e (0, 0))) (hs : cs.size = n) (hm : Mem8 w g 0 n l) (hn : n ≤ maxLen) : w.ownsRow base e 1 (.slice (some ⟨g, 0, none⟩) n n) n (bcells l) := by
  have hl := hm.len
  refine ⟨by rw [bcells_length, hl, Nat.mul_one], .inr ⟨g, n, cs, rfl, hg, hh, Nat.le_refl _, hn, by rw [hs, Nat.mul_one], ?_⟩⟩
  rw [Nat.mul_one, List.take_of_length_le (by simp [hs])]
  refine List.ext_getElem (by rw [bcells_length, hl]; simpa using hs) fun j h1 h2 => ?_
  rw [bcells_length] at h2
  have := hm.cell j h2
  rw [Nat.zero_add, cell_of_row w g j cs e _ hh] at this
  have g := bcells_get h2
  rw [List.getElem?_eq_getElem (by rw [bcells_length]; exact h2)] at g
  injection g with g
  rw [g]
  obtain ⟨h3, h4⟩ := Array.getElem?_eq_some_iff.1 this
  rw [← h4]
  simp

set_option maxHeartbeats 400000 in
/-- Bytes: of a number the last ones, and whether there are no more. -/
theorem rbytes_own (N size : Nat) (w : World) (hs : size ≤ 8) (hN : N < 18446744073709551616) :
    Calls Try.prog 27 #[.int .u64 (N : Int), .int .i64 (size : Int)] w fun e w' => ∃ v, e = .returned (.tuple #[v, .bool (decide (N / 256 ^ size = 0))]) ∧ w'.ownsRow w.heap.size 5 1 v size (bcells (be N size)) ∧ v ≠ .slice none 0 0 ∧ Below w.heap.size w w' := by
  obtain ⟨i0, hi, hz0, hz1, hz2⟩ := info_parts u8info
  go_enter Try.func27, Try.ntmps27
  go_wp2_with (at_make; refine wpList_make_full _ rfl _ _ 28 rfl w.heap.size 5 i0 (.int .u8 0) 1 Try.underlying28 hi hz0 hz1 .i64 .i64 _ _ size rfl rfl rfl rfl (by rw [hz2]; omega) (by simp only [maxLen]; omega) (Nat.le_refl _) ?_)
  intro w1 hown hgrow
  have hb1 : Below w.heap.size w w1 := (Below.refl _ _).grown hgrow (Nat.le_refl _) (by intro k hk; cases hk)
  have hm := toList_made hown
  have HBK := Lib.hid (Blk8.of_made hown).heap
  clear hown hgrow hi hz0 hz1 hz2 i0
  have HB := Lib.hid hb1; clear hb1
  have HM := Lib.hid hm; clear hm
  go_wp2
  go_loopw [0, 7] (fun t i wr => ∃ k : Nat, k ≤ size ∧ i = .int .i64 ((size : Int) - 1 - k) ∧ t = .int .u64 ((N / 256 ^ k : Nat) : Int) ∧ Wrote w1 wr w.heap.size (size - k) size ∧ (∀ j, j < k → wr.cell? ⟨w.heap.size, size - 1 - j, none⟩ = some (.int .u8 ((UInt8.ofNat (N / 256 ^ j)).toNat : Int)))) (fun _ i _ => (intOf i + 1).toNat)
  case atStart => exact ⟨0, Nat.zero_le _, by simp, by simp, Wrote.refl _ _ _ _, fun j hj => absurd hj (Nat.not_lt_zero _)⟩
  case round =>
    obtain ⟨k, hk, rfl, rfl, hwr, hdone⟩ := hrel
    have HW := Lib.hid hwr; clear hwr
    have HD := Lib.hid hdone; clear hdone
    have hNk : N / 256 ^ k ≤ N := Nat.div_le_self _ _
    have hNs : N / 256 ^ k / 256 = N / 256 ^ (k + 1) := by rw [Nat.div_div_eq_div_mul, Nat.pow_succ]
    have hby : N / 256 ^ k % 256 = (UInt8.ofNat (N / 256 ^ k)).toNat := by simp
    generalize hMk : N / 256 ^ k = M at *
    have HMk := Lib.hid hMk; clear hMk
    have HNs := Lib.hid hNs; clear hNs
    have Hby := Lib.hid hby; clear hby
    by_cases hlt : k < size
    · have hf : wr.frozen? ⟨w.heap.size, size - 1 - k, none⟩ = false := by
        rw [HW.out.frz]; have := HM.out.free (size - 1 - k) (by simp; omega); simpa using this
      have hc : wr.cell? ⟨w.heap.size, size - 1 - k, none⟩ = some (.int .u8 0) := by
        rw [HW.out.cell _ (by omega)]; have := HM.out.cell (size - 1 - k) (by simp; omega); simpa using this
      go_wp2
      go_roundw
      case rel =>
        refine ⟨k + 1, by omega, vint (by omega), vint (by rw [← HNs.out]; omega), (HW.out.mono (by omega) (by omega)).trans ((Wrote.set _ _ _ _).mono (by omega) (by omega)), ?_⟩
        intro j hj
        by_cases e : j = k
        · subst e
          rw [HMk.out, ← Hby.out]
          exact World.cell?_setCell_same' _ _ _ (by rw [hc]; rfl)
        · rw [World.cell?_setCell_other wr ⟨w.heap.size, size - 1 - k, none⟩ ⟨w.heap.size, size - 1 - j, none⟩ _ (fun e => by injection e with _ e2; omega)]
          exact HD.out j (by omega)
      case measure => simp [intOf]; omega
    · have hks : k = size := by omega
      subst hks
      go_wp2
      go_ret2
      refine ⟨.slice (some ⟨w.heap.size, 0, none⟩) k k, ?_, ?_, by simp, HB.out.trans (HW.out.below (Nat.le_refl _))⟩
      · rw [HMk.out]
        have hbq : ((M : Int) == 0) = decide (M = 0) := by rw [Bool.eq_iff_iff]; simp
        rw [← hbq]
        rfl
      · obtain ⟨cs, hcs, hcz⟩ := HW.out.blk _ _ _ HBK.out
        have hmem : Mem8 wr w.heap.size 0 k (be N k) := ?mem
        exact own_of_mem8 (Nat.le_refl _) hcs (by rw [hcz]; simp [bcells_length]) hmem (by simp only [maxLen]; omega)
        refine ⟨be_length _ _, by rw [HW.out.size]; exact HM.out.lt, fun j hj => ?_, fun j hj => ?_⟩
        · rw [be_length] at hj
          have := HD.out (k - 1 - j) (by omega)
          rw [show k - 1 - (k - 1 - j) = j by omega] at this
          rw [Nat.zero_add, this]
          have g := be_get N k (k - 1 - j) (by omega)
          rw [show k - 1 - (k - 1 - j) = j by omega, List.getElem?_eq_getElem (by rw [be_length]; omega)] at g
          injection g with g
          rw [g]
        · rw [be_length] at hj
          rw [HW.out.frz]
          exact HM.out.free _ (by simp; omega)


set_option maxRecDepth 100000 in
set_option maxHeartbeats 4000000 in
theorem rright_any (s : Sup) (w : World) : Calls Try.prog 20 #[sval s] w fun e w' => e = .returned (.bool (rightS s)) ∧ Below w.heap.size w w' := by
  have HRS : Hid (rightS s = (decide (0 < s.gen.toNat) && (decide (16 ≤ s.blocks.toNat) && (decide (s.blocks.toNat ≤ 4096) && !s.roots.any (farB s.blocks))))) := Lib.hid rfl
  have h8 := Lib.hid s.hr
  go_enter Try.func20, Try.ntmps20
  go_wp2_with (refine wl_box (.tmp 0) rfl (by rfl) s rfl ?_)
  intro W0 hb0 hm0 hs0
  have B0 := Lib.hid hb0
  have M0 := Lib.hid hm0
  clear hb0 hm0 hs0
  go_wp2_with fail
  go_loopw [3] (fun i wr => ∃ k : Nat, k ≤ 8 ∧ i = .int .i64 (k : Int) ∧ (∀ r ∈ s.roots.take k, farB s.blocks r = false) ∧ MemC wr w.heap.size 0 (scells s) ∧ Below w.heap.size w wr) (fun i _ => 8 - (intOf i).toNat)
  case atStart => exact ⟨0, Nat.zero_le _, rfl, by simp, M0.out, B0.out⟩
  case round =>
    clear B0 M0
    obtain ⟨k, hk, rfl, ha, hm, hb⟩ := hrel
    have HA := Lib.hid ha; clear ha
    have HM := Lib.hid hm; clear hm
    have HB := Lib.hid hb; clear hb
    obtain ⟨c1, _⟩ := HM.out.gets 1 _ (scells_blocks s)
    by_cases hlt : k < 8
    · obtain ⟨c0, _⟩ := HM.out.gets (2 + k) _ (scells_root s k hlt)
      have hlen : k < s.roots.length := by rw [h8.out]; exact hlt
      obtain ⟨x, hx⟩ : ∃ x, x = s.roots[k] := ⟨_, rfl⟩
      have e2 : fval s (2 + k) = x.toNat := by
        unfold fval
        rw [if_neg (by omega), if_neg (by omega), if_pos (by omega), show 2 + k - 2 = k by omega, List.getD_eq_getElem?_getD, List.getElem?_eq_getElem hlen, hx]
        rfl
      rw [e2] at c0
      have HT : Hid (s.roots.take (k + 1) = s.roots.take k ++ [x]) := Lib.hid (by rw [hx]; exact List.take_succ_eq_append_getElem hlen)
      have HMm : Hid (x ∈ s.roots) := Lib.hid (by rw [hx]; exact List.getElem_mem _)
      have HK := Lib.hid hlt
      clear hx e2 hlen
      have k0 : (0 : Int) ≤ (k : Int) := Int.natCast_nonneg _
      have k1 : (k : Int) < 8 := by omega
      have HX : Hid (farB s.blocks x = decide (s.blocks.toNat ≤ x.toNat)) := Lib.hid rfl
      obtain ⟨y, hy⟩ : ∃ y, y = s.blocks.toNat := ⟨_, rfl⟩
      obtain ⟨z, hz⟩ : ∃ z, z = x.toNat := ⟨_, rfl⟩
      rw [← hy] at c1 HX
      rw [← hz] at c0 HX
      clear hy hz
      by_cases hyz : y ≤ z
      · have g : (y : Int) ≤ (z : Int) := by omega
        have HF : Hid (rightS s = false) := Lib.hid (by rw [HRS.out, List.any_eq_true.2 ⟨x, HMm.out, by rw [HX.out]; exact decide_eq_true hyz⟩]; simp)
        clear hyz
        go_wp2_with fail
        go_quiet (fail)
        go_wp2_with fail
        go_ret
        exact ⟨by rw [HF.out]; rfl, below_dN HB.out _⟩
      · have g : ¬ (y : Int) ≤ (z : Int) := by omega
        have HF : Hid (farB s.blocks x = false) := Lib.hid (by rw [HX.out]; exact decide_eq_false hyz)
        clear hyz
        go_wp2_with fail
        go_quiet (fail)
        go_wp2_with fail
        go_roundw
        case rel => exact ⟨k + 1, HK.out, by go_num, by rw [HT.out]; intro r hr; rcases List.mem_append.1 hr with h | h; exact HA.out r h; rw [List.mem_singleton] at h; rw [h]; exact HF.out, HM.out.drewN _, below_dN HB.out _⟩
        case measure => have := HK.out; simp [intOf]; omega
    · obtain rfl : k = 8 := by omega
      rw [show ((8 : Nat) : Int) = 8 from rfl]
      obtain ⟨c0, _⟩ := HM.out.gets 0 _ (scells_gen s)
      have HN : Hid (s.roots.any (farB s.blocks) = false) := Lib.hid (by
        have := HA.out
        rw [List.take_of_length_le (by rw [h8.out]; exact Nat.le_refl _)] at this
        exact List.any_eq_false.2 (fun r hr => by rw [this r hr]; decide))
      have HRS2 : Hid (rightS s = (decide (0 < s.gen.toNat) && (decide (16 ≤ s.blocks.toNat) && decide (s.blocks.toNat ≤ 4096)))) := Lib.hid (by rw [HRS.out, HN.out]; simp)
      clear HA HN HRS h8
      obtain ⟨x, hx⟩ : ∃ x, x = s.gen.toNat := ⟨_, rfl⟩
      obtain ⟨y, hy⟩ : ∃ y, y = s.blocks.toNat := ⟨_, rfl⟩
      rw [← hx] at c0 HRS2
      rw [← hy] at c1 HRS2
      clear hx hy
      by_cases h1 : 1 ≤ x
      · have g1 : (1 : Int) ≤ (x : Int) := by omega
        by_cases h2 : 16 ≤ y
        · have g2 : (16 : Int) ≤ (y : Int) := by omega
          by_cases h3 : y ≤ 4096
          · have g3 : (y : Int) ≤ 4096 := by omega
            have HF : Hid (rightS s = true) := Lib.hid (by rw [HRS2.out, decide_eq_true (show 0 < x by omega), decide_eq_true h2, decide_eq_true h3]; rfl)
            go_wp2_with fail
            go_ret
            exact ⟨by rw [HF.out]; rfl, HB.out⟩
          · have g3 : ¬ (y : Int) ≤ 4096 := by omega
            have HF : Hid (rightS s = false) := Lib.hid (by rw [HRS2.out, decide_eq_false h3]; simp)
            go_wp2_with fail
            go_ret
            exact ⟨by rw [HF.out]; rfl, HB.out⟩
        · have g2 : ¬ (16 : Int) ≤ (y : Int) := by omega
          have HF : Hid (rightS s = false) := Lib.hid (by rw [HRS2.out, decide_eq_false h2]; simp)
          go_wp2_with fail
          go_ret
          exact ⟨by rw [HF.out]; rfl, HB.out⟩
      · have g1 : ¬ (1 : Int) ≤ (x : Int) := by omega
        have HF : Hid (rightS s = false) := Lib.hid (by rw [HRS2.out, decide_eq_false (show ¬ 0 < x by omega)]; simp)
        go_wp2_with fail
        go_ret
        exact ⟨by rw [HF.out]; rfl, HB.out⟩

end Go.Proofs.Ytfnoeligaapnbaa
