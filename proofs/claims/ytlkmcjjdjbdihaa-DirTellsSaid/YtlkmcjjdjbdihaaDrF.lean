/-
  dir.Bucket, Depth.
-/
import Derived.Test.YtlkmcjjdjbdihaaDrE
import Derived.OwnWalk
namespace Go.Proofs.Ytlkmcjjdjbdihaa
open Go.RowKit Go.Maps
set_option linter.unusedVariables false
attribute [local go_sem ↓] Go.wp_at_zero Go.wp_at_succ

theorem own_base_mono {w : World} {base base' s n : Nat} {e : TypeId} {v : Value} {xs : List Value} (h : w.ownsRow base e s v n xs) (hb : base' ≤ base) : w.ownsRow base' e s v n xs :=
  ⟨h.1, h.2.imp id fun ⟨q, cap, cur, e1, hq, r⟩ => ⟨q, cap, cur, e1, Nat.le_trans hb hq, r⟩⟩

/-- The slots of a run. -/
def slotsR (r : Run) (k : Nat) : List Int := (List.range k).map (fun i => ((r.1 + i : Nat) : Int))
theorem slotsR_length (r : Run) (k : Nat) : (slotsR r k).length = k := by simp [slotsR]
theorem slotsR_succ (r : Run) (k : Nat) : slotsR r (k + 1) = slotsR r k ++ [((r.1 + k : Nat) : Int)] := by simp [slotsR, List.range_succ]
def bucketL (d : Dir) (s : Int) : List Int := slotsR (bucketR d s) ((bucketR d s).2 - (bucketR d s).1)

theorem bucketR_le (d : Dir) (s : Int) : (bucketR d s).1 ≤ (bucketR d s).2 ∧ (bucketR d s).2 ≤ 256 := by
  unfold bucketR
  split
  · rename_i h
    have hR := rightB_iff.1 h.1
    have h8 := pow8 hR.le
    have hl := hR.len
    unfold runOf
    cases hf : (runsFrom d.slots 0).find? (fun r => decide (s.toNat < r.2))
    · simp
    · rename_i r
      obtain ⟨_, h1, h2, _⟩ := runs_each d.slots 0 r (List.mem_of_find?_eq_some hf)
      show r.1 ≤ r.2 ∧ r.2 ≤ 256
      omega
  · simp

set_option maxHeartbeats 2000000 in
set_option maxRecDepth 100000 in
theorem Bucket_any (d : Dir) (A : Option Addr) (n c : Nat) (s : Int) (w : World) (h : ReadsW w A n d.slots) (hn : n ≤ maxLen) :
    Calls Try.prog 14 #[dval d A n c, .int .i64 s] w fun e w' => ∃ v, e = .returned (.tuple #[v, .int .i64 (bucketE d s)]) ∧ w'.ownsRow w.heap.size 3 1 v (bucketL d s).length (icells (bucketL d s)) ∧ Below w.heap.size w w' := by
  have HR := Lib.hid h; clear h
  obtain ⟨W0, hW0⟩ : ∃ W0 : World, W0 = w.alloc (.cells #[.int .u8 (d.depth.toNat : Int), .slice A n c] 24) := ⟨_, rfl⟩
  have B0 : Hid (Below w.heap.size w W0) := Lib.hid (by rw [hW0]; exact (Below.refl _ w).alloc (Nat.le_refl _) _)
  have S0 : Hid (BoxD W0 w.heap.size d A n c) := Lib.hid (by rw [hW0]; exact BoxD.new w d A n c HR.out)
  have HW := Lib.hid hW0; clear hW0
  obtain ⟨a0, a1⟩ := S0.out.cells
  have hc := fun (w : World) (h : ReadsW w A n d.slots) => bucket_any d A n c s w h hn
  obtain ⟨hle, h256⟩ := bucketR_le d s
  unfold bucketL
  generalize bucketR d s = r at *
  generalize bucketE d s = E at *
  obtain ⟨r1, r2⟩ := r
  dsimp only at *
  obtain ⟨m, hm⟩ : ∃ m, r2 = r1 + m := ⟨r2 - r1, by omega⟩
  rw [show r2 - r1 = m by omega, slotsR_length]
  have hm256 : m ≤ 256 := by omega
  have HM := Lib.hid hm; clear hm
  have HC := Lib.hid hc; clear hc
  unfold dval
  go_enter Try.func14, Try.ntmps14
  go_upto_region 1 with fail
  rw [← HW.out]
  clear HW
  go_wp2_with fail
  rw [dval_eq]
  refine (HC.out _ S0.out.rd).mono ?_
  rintro e w1 ⟨rfl, hb⟩
  unfold rval
  obtain ⟨W2, hW2⟩ : ∃ W2 : World, W2 = w1.alloc (.cells #[.int .i64 (r1 : Int), .int .i64 (r2 : Int)] 56) := ⟨_, rfl⟩
  have b2 : Below w1.heap.size w1 W2 := by rw [hW2]; exact (Below.refl _ _).alloc (Nat.le_refl _) _
  have R2 : Hid (MemC W2 w1.heap.size 0 [.int .i64 (r1 : Int), .int .i64 (r2 : Int)]) := Lib.hid (by rw [hW2]; exact MemC.new w1 [.int .i64 (r1 : Int), .int .i64 (r2 : Int)] 56)
  have B2 := Lib.hid (B0.out.trans ((hb.trans (b2.mono hb.size)).mono B0.out.size))
  have HW2 := Lib.hid hW2
  clear hb b2 hW2 a0 a1 S0 B0
  go_upto_region 2 with fail
  rw [← HW2.out]
  clear HW2
  obtain ⟨q0, _⟩ := R2.out.get 0 _ rfl
  have hls := R2.out.at_.lt
  go_wp2_with fail
  go_loopw [8, 9] (fun v i wr => ∃ k : Nat, k ≤ m ∧ i = .int .i64 ((r1 + k : Nat) : Int) ∧ wr.ownsRow W2.heap.size 3 1 v k (icells (slotsR (r1, r2) k)) ∧ Below W2.heap.size W2 wr) (fun _ i _ => r2 - (intOf i).toNat)
  case atStart => exact ⟨0, Nat.zero_le _, rfl, World.ownsRow_nil _ _ _ _, Below.refl _ _⟩
  case round =>
    obtain ⟨k, hk, rfl, hown, hb⟩ := hrel
    have HO := Lib.hid hown; clear hown
    have HB := Lib.hid hb; clear hb
    obtain ⟨q1, _⟩ := (R2.out.keep HB.out).get 1 _ rfl
    clear q0
    by_cases hlt : k < m
    · have i1 : ((r1 + k : Nat) : Int) < (r2 : Int) := by have := HM.out; omega
      obtain ⟨z, hz⟩ : ∃ z : Int, z = ((r1 + k : Nat) : Int) := ⟨_, rfl⟩
      have hm9 := HM.out
      rw [← hz] at i1 ⊢
      have hz1 : IntKind.i64.wrap (z + 1) = z + 1 := IntWalk.i64_in _ (by omega)
      have HZ := Lib.hid hz; clear hz hm9
      go_wp2_with (at_builtin; (refine wpList_appendC rfl _ _ 34 rfl W2.heap.size 3 (.int .i64 0) 1 8 Try.underlying34 intinfo rfl (by omega) u8 k (icells (slotsR (r1, r2) k)) rfl (HO.out.alloc _) (some ⟨wr.heap.size, 0, none⟩) 1 1 (icells [z]) rfl rfl (MemC.new wr _ 3).cells (icells_one _) (by simp only [maxLen]; omega) (by omega) (by have := HB.out.size; simp; omega) ?_))
      intro v' w3 hown1 hgrow hnil hat
      have hb1 : Below W2.heap.size W2 w3 := (HB.out.alloc HB.out.size _).grown hgrow (by have := HB.out.size; simp; omega) (own_base HO.out)
      have ho1 : w3.ownsRow W2.heap.size 3 1 v' (k + 1) (icells (slotsR (r1, r2) (k + 1))) := by rw [slotsR_succ, icells_append]; rw [HZ.out] at hown1; exact hown1
      have HO1 := Lib.hid ho1
      have HB1 := Lib.hid hb1
      clear hown1 hgrow hnil hat hb1 ho1
      go_wp2_with fail
      go_roundw
      case rel => exact ⟨k + 1, by omega, by rw [HZ.out]; rfl, HO1.out, HB1.out⟩
      case measure => have := HM.out; have := HZ.out; simp [intOf]; omega
    · obtain rfl : k = m := by omega
      have i1 : ¬ ((r1 + k : Nat) : Int) < (r2 : Int) := by have := HM.out; omega
      obtain ⟨z, hz⟩ : ∃ z : Int, z = ((r1 + k : Nat) : Int) := ⟨_, rfl⟩
      rw [← hz] at i1 ⊢
      clear hz
      go_wp2_with fail
      go_ret2
      exact ⟨_, rfl, own_base_mono HO.out B2.out.size, B2.out.trans (HB.out.mono B2.out.size)⟩

theorem half_pow (j : Nat) : (2 ^ (j + 1)) / 2 = 2 ^ j := by rw [Nat.pow_succ]; omega

/-- The loop of Depth: a power of two is halved till it is no more than another. -/
theorem pow_gt {a b : Nat} : 2 ^ b < 2 ^ a ↔ b < a := Nat.pow_lt_pow_iff_right (by omega)

set_option maxHeartbeats 2000000 in
set_option maxRecDepth 100000 in
theorem depth_bad (d : Dir) (A : Option Addr) (n c : Nat) (s : Int) (w : World) (h : ReadsW w A n d.slots) (hn : n ≤ maxLen) (hE : bucketE d s ≠ 0) :
    Calls Try.prog 15 #[dval d A n c, .int .i64 s] w fun e w' => e = .returned (.tuple #[.int .i64 0, .int .i64 (bucketE d s)]) ∧ Below w.heap.size w w' := by
  have HR := Lib.hid h; clear h
  obtain ⟨W0, hW0⟩ : ∃ W0 : World, W0 = w.alloc (.cells #[.int .u8 (d.depth.toNat : Int), .slice A n c] 24) := ⟨_, rfl⟩
  have B0 : Hid (Below w.heap.size w W0) := Lib.hid (by rw [hW0]; exact (Below.refl _ w).alloc (Nat.le_refl _) _)
  have S0 : Hid (BoxD W0 w.heap.size d A n c) := Lib.hid (by rw [hW0]; exact BoxD.new w d A n c HR.out)
  have HW := Lib.hid hW0; clear hW0
  obtain ⟨a0, a1⟩ := S0.out.cells
  have hc := fun (w : World) (h : ReadsW w A n d.slots) => bucket_any d A n c s w h hn
  generalize bucketR d s = r at *
  generalize bucketE d s = E at *
  have HC := Lib.hid hc; clear hc
  have hEb : (E != 0) = true := by simpa using hE
  clear hE
  unfold dval
  go_enter Try.func15, Try.ntmps15
  go_upto_region 1 with fail
  rw [← HW.out]
  clear HW
  go_wp2_with fail
  rw [dval_eq]
  refine (HC.out _ S0.out.rd).mono ?_
  rintro e w1 ⟨rfl, hb⟩
  have B1 := Lib.hid (B0.out.trans (hb.mono B0.out.size)); clear hb a0 a1
  unfold rval
  go_wp2_with fail
  go_ret2
  exact ⟨rfl, B1.out.alloc B1.out.size _⟩

set_option maxHeartbeats 2000000 in
set_option maxRecDepth 100000 in
theorem depth_ok (d : Dir) (A : Option Addr) (n c : Nat) (D s k : Nat) (w : World) (h : ReadsW w A n d.slots) (hR : RightD d D) (hs : s < 2 ^ D) (hk : k ≤ D) (hf : Fits d.slots D s k) :
    Calls Try.prog 15 #[dval d A n c, .int .i64 (s : Int)] w fun e w' => e = .returned (.tuple #[.int .i64 (k : Int), .int .i64 0]) ∧ Below w.heap.size w w' := by
  have hD := hR.le
  have hn : n = 2 ^ D := by rw [← h.1, hR.len]
  have hn256 := pow8 hD
  have hb : bucketR d (s : Int) = (s / 2 ^ (D - k) * 2 ^ (D - k), s / 2 ^ (D - k) * 2 ^ (D - k) + 2 ^ (D - k)) ∧ bucketE d (s : Int) = 0 := by
    unfold bucketR bucketE
    have hr : rightB d = true := rightB_iff.2 (by rw [hR.dep]; exact hR)
    have hin : (0 : Int) ≤ (s : Int) ∧ (s : Int) < (d.slots.length : Int) := by rw [hR.len]; exact ⟨by omega, Int.ofNat_lt.2 hs⟩
    rw [hr, if_pos ⟨rfl, hin⟩, if_pos rfl, if_pos hin]
    exact ⟨runOf_spec hR.len hs hk hf, rfl⟩
  have hc := fun (w : World) (h : ReadsW w A n d.slots) => bucket_any d A n c (s : Int) w h (by simp only [maxLen]; omega)
  rw [hb.1, hb.2] at hc
  have HC := Lib.hid hc; clear hc hb
  have hle := (bucketR_le d (s : Int)).2
  have hpl : s / 2 ^ (D - k) * 2 ^ (D - k) ≤ s := Nat.div_mul_le_self s _
  have hs256 : s < 256 := by omega
  generalize s / 2 ^ (D - k) * 2 ^ (D - k) = p at *
  have HR := Lib.hid h; clear h hf hle
  obtain ⟨W0, hW0⟩ : ∃ W0 : World, W0 = w.alloc (.cells #[.int .u8 (d.depth.toNat : Int), .slice A n c] 24) := ⟨_, rfl⟩
  have B0 : Hid (Below w.heap.size w W0) := Lib.hid (by rw [hW0]; exact (Below.refl _ w).alloc (Nat.le_refl _) _)
  have S0 : Hid (BoxD W0 w.heap.size d A n c) := Lib.hid (by rw [hW0]; exact BoxD.new w d A n c HR.out)
  have HW := Lib.hid hW0; clear hW0
  obtain ⟨a0, a1⟩ := S0.out.cells
  have hm8 := pow8 (D := D - k) (by omega)
  obtain ⟨m, hm⟩ : ∃ m, m = 2 ^ (D - k) := ⟨_, rfl⟩
  obtain ⟨y, hy⟩ : ∃ y, y = p + m := ⟨_, rfl⟩
  rw [← hm] at HC hm8
  rw [← hy] at HC
  have hyp : IntKind.i64.wrap ((y : Int) - (p : Int)) = (m : Int) := by rw [IntWalk.i64_in _ (by omega)]; omega
  have hyp2 : (y : Int) - (p : Int) = (m : Int) := by omega
  have HM := Lib.hid hm
  have HN := Lib.hid hn
  clear hm hn hy hs hR hn256
  unfold dval
  go_enter Try.func15, Try.ntmps15
  go_upto_region 1 with fail
  rw [← HW.out]
  clear HW
  go_wp2_with fail
  rw [dval_eq]
  refine (HC.out _ S0.out.rd).mono ?_
  rintro e w1 ⟨rfl, hb⟩
  unfold rval
  dsimp only
  obtain ⟨W2, hW2⟩ : ∃ W2 : World, W2 = w1.alloc (.cells #[.int .i64 (p : Int), .int .i64 (y : Int)] 56) := ⟨_, rfl⟩
  have b2 : Below w1.heap.size w1 W2 := by rw [hW2]; exact (Below.refl _ _).alloc (Nat.le_refl _) _
  have R2 : Hid (MemC W2 w1.heap.size 0 [.int .i64 (p : Int), .int .i64 (y : Int)]) := Lib.hid (by rw [hW2]; exact MemC.new w1 [.int .i64 (p : Int), .int .i64 (y : Int)] 56)
  have B2 := Lib.hid (B0.out.trans ((hb.trans (b2.mono hb.size)).mono B0.out.size))
  have S2 := Lib.hid ((S0.out.keep hb).keep b2)
  have HW2 := Lib.hid hW2
  clear hb b2 hW2 a0 a1 S0 B0
  go_upto_region 2 with fail
  rw [← HW2.out]
  clear HW2
  obtain ⟨a0, a1⟩ := S2.out.cells
  obtain ⟨q0, _⟩ := R2.out.get 0 _ rfl
  obtain ⟨q1, _⟩ := R2.out.get 1 _ rfl
  go_wp2_with fail
  go_loopw [8, 9] (fun i v wr => ∃ j : Nat, j ≤ k ∧ i = .int .i64 (j : Int) ∧ v = .int .i64 ((2 ^ (D - j) : Nat) : Int) ∧ wr = W2) (fun i _ _ => k - (intOf i).toNat)
  case atStart => exact ⟨0, Nat.zero_le _, rfl, by rw [HN.out]; rfl, rfl⟩
  case round =>
    obtain ⟨j, hj, rfl, rfl, rfl⟩ := hrel
    have hp8 := pow8 (D := D - j) (by omega)
    by_cases hlt : j < k
    · have h1 : 2 ^ (D - k) < 2 ^ (D - j) := pow_gt.2 (by omega)
      have h2 : 2 ^ (D - j) / 2 = 2 ^ (D - (j + 1)) := by
        rw [show D - j = D - (j + 1) + 1 by omega]
        exact half_pow _
      rw [← HM.out] at h1
      obtain ⟨x, hx⟩ : ∃ x, x = 2 ^ (D - j) := ⟨_, rfl⟩
      rw [← hx] at h1 h2 hp8 ⊢
      have h3 : (x : Int) / 2 = ((2 ^ (D - (j + 1)) : Nat) : Int) := by rw [← h2]; rfl
      have h1i : (m : Int) < (x : Int) := by omega
      have HX := Lib.hid h3
      clear hx h2 h1 h3
      go_wp2_with fail
      go_roundw
      case rel => exact ⟨j + 1, by omega, by go_num, by rw [HX.out], trivial⟩
      case measure => simp [intOf]; omega
    · obtain rfl : j = k := by omega
      rw [← HM.out]
      have h1i : ¬ (m : Int) < (m : Int) := by omega
      go_wp2_with fail
      go_ret2
      exact ⟨rfl, B2.out⟩

end Go.Proofs.Ytlkmcjjdjbdihaa
