/-
  catchmentlaw04.awake.
-/
import Derived.Test.YtcljobkdihbflaaShH
namespace Go.Proofs.Ytcljobkdihbflaa
open Go.RowKit
set_option linter.unusedVariables false
attribute [local go_sem ↓] Go.wp_at_zero Go.wp_at_succ

/-- What is told of a shelf's page. -/
theorem decode_yes (A : Option Addr) (n c : Nat) (p : List UInt8) (s : Shelf) (w : World) (h : Reads8 w A n p) (hn : n ≤ maxLen) (hnc : n ≤ c) (hp : p = pageOf 3 (sbody s)) (hr : rightB s = true) :
    Calls Try.prog 11 #[.slice A n c] w fun e w' => ∃ v N, e = .returned (.tuple #[.agg #[.int .u8 (s.depth.toNat : Int), .int .u32 (s.next.toNat : Int), v], .int .i64 0]) ∧ w.heap.size ≤ N ∧ w'.ownsRow N 37 2 v s.ents.length (ecells s.ents) ∧ Below w.heap.size w w' := by
  subst hp
  obtain ⟨h1, h2⟩ := shelf_of_page s hr
  refine (decode_any A n c _ w h hn hnc).mono ?_
  rintro e w' (⟨_, h3⟩ | ⟨h3, _⟩)
  · rw [h2] at h3; exact h3
  · rw [h1] at h3; cases h3

def s1 : Shelf := ⟨1, 5, [(9223372036854775808, 6)]⟩
theorem s1_right : rightB s1 = true := by decide +kernel
def page1 : List UInt8 := pageOf 3 (sbody s1)
theorem page1_length : page1.length = 128 := pageOf_length 3 _ (by decide +kernel)
theorem page1_take : (page1.drop 0).take 20 = [3, 1, 1, 0, 0, 0, 5, 128, 0, 0, 0, 0, 0, 0, 0, 0, 0, 0, 6, 0] := by decide +kernel

theorem decode_s1 (A : Option Addr) (n c : Nat) (w : World) (h : Reads8 w A n page1) (hn : n ≤ maxLen) (hnc : n ≤ c) :
    Calls Try.prog 11 #[.slice A n c] w fun e w' => ∃ v N, e = .returned (.tuple #[.agg #[.int .u8 1, .int .u32 5, v], .int .i64 0]) ∧ w.heap.size ≤ N ∧ w'.ownsRow N 37 2 v 1 (ecells s1.ents) ∧ Below w.heap.size w w' :=
  decode_yes A n c page1 s1 w h hn hnc rfl s1_right

set_option maxHeartbeats 4000000 in
set_option maxRecDepth 100000 in
theorem awake_any (w : World) : Calls Try.prog 9 #[] w fun e w' => e = .returned (.bool true) ∧ Below w.heap.size w w' := by
  obtain ⟨W1, hW1⟩ : ∃ W1 : World, W1 = (w.alloc (.cells #[.int .u64 9223372036854775808, .int .u32 6] 37)).alloc (.cells #[.int .u8 1, .int .u32 5, .slice (some ⟨w.heap.size, 0, none⟩) 1 1] 25) := ⟨_, rfl⟩
  have B1 : Hid (Below w.heap.size w W1) := Lib.hid (by rw [hW1]; exact ((Below.refl _ _).alloc (Nat.le_refl _) _).alloc (by simp) _)
  have R1 : Hid (ReadsE W1 (some ⟨w.heap.size, 0, none⟩) 1 s1.ents) := Lib.hid (by
    refine ReadsE.of1 (9223372036854775808, 6) ?_ ?_
    · rw [hW1]; simp
    · rw [hW1]; simp)
  have M1 : Hid (MemC W1 (w.heap.size + 1) 0 [.int .u8 1, .int .u32 5, .slice (some ⟨w.heap.size, 0, none⟩) 1 1]) := Lib.hid (by
    rw [hW1]
    have := MemC.new (w.alloc (.cells #[.int .u64 9223372036854775808, .int .u32 6] 37)) [.int .u8 1, .int .u32 5, .slice (some ⟨w.heap.size, 0, none⟩) 1 1] 25
    rw [World.size_alloc] at this
    exact this)
  have HW := Lib.hid hW1; clear hW1
  go_enter Try.func9, Try.ntmps9
  go_upto_region 2 with fail
  rw [← HW.out]
  clear HW
  obtain ⟨a0, _⟩ := M1.out.get 0 _ rfl
  obtain ⟨a1, _⟩ := M1.out.get 1 _ rfl
  obtain ⟨a2, _⟩ := M1.out.get 2 _ rfl
  go_wp2_with fail
  refine (encode_right s1 _ 1 1 _ R1.out s1_right).mono ?_
  rintro e w2 ⟨v, rfl, hF⟩
  obtain ⟨g, d, rfl, hg, hd, hdm, hM, hB⟩ := hF.open_ page1_length
  replace hM : Mem8 w2 g 0 128 page1 := hM
  have B2 := Lib.hid (B1.out.trans (hB.mono B1.out.size))
  have P2 := Lib.hid hM
  have R2 := Lib.hid (R1.out.keep hB)
  have M2 := Lib.hid (M1.out.keep hB)
  clear hM hB hF R1 B1 M1 a0 a1 a2
  have hd7 : (20 : Int) ≤ (d : Int) := by omega
  have hdn : ¬ d = 0 := by omega
  go_wp2_with fail
  have hb3 := (Below.refl w2.heap.size w2).alloc (Nat.le_refl _) (.cells #[.int .u8 3, .int .u8 1, .int .u8 1, .int .u8 0, .int .u8 0, .int .u8 0, .int .u8 5, .int .u8 128, .int .u8 0, .int .u8 0, .int .u8 0, .int .u8 0, .int .u8 0, .int .u8 0, .int .u8 0, .int .u8 0, .int .u8 0, .int .u8 0, .int .u8 6, .int .u8 0] 5)
  have R20 := ((P2.out.keep hb3).sub 0 20 (by omega)).reads
  rw [page1_take] at R20
  refine (equal_any _ _ 20 20 d 20 [3, 1, 1, 0, 0, 0, 5, 128, 0, 0, 0, 0, 0, 0, 0, 0, 0, 0, 6, 0] [3, 1, 1, 0, 0, 0, 5, 128, 0, 0, 0, 0, 0, 0, 0, 0, 0, 0, 6, 0] _ R20 (Blk8.new w2 [3, 1, 1, 0, 0, 0, 5, 128, 0, 0, 0, 0, 0, 0, 0, 0, 0, 0, 6, 0]).mem.reads).mono ?_
  rintro e w' ⟨rfl, rfl⟩
  rw [show same8 [3, 1, 1, 0, 0, 0, 5, 128, 0, 0, 0, 0, 0, 0, 0, 0, 0, 0, 6, 0] [3, 1, 1, 0, 0, 0, 5, 128, 0, 0, 0, 0, 0, 0, 0, 0, 0, 0, 6, 0] = true from by decide]
  clear R20
  go_upto_region 5 with fail
  have B3 := B2.out.trans (hb3.mono B2.out.size)
  have P3 := P2.out.keep hb3
  have R3 := R2.out.keep hb3
  have M3 := M2.out.keep hb3
  obtain ⟨W3, hW3⟩ : ∃ W3 : World, W3 = w2.alloc (.cells #[.int .u8 3, .int .u8 1, .int .u8 1, .int .u8 0, .int .u8 0, .int .u8 0, .int .u8 5, .int .u8 128, .int .u8 0, .int .u8 0, .int .u8 0, .int .u8 0, .int .u8 0, .int .u8 0, .int .u8 0, .int .u8 0, .int .u8 0, .int .u8 0, .int .u8 6, .int .u8 0] 5) := ⟨_, rfl⟩
  rw [← hW3] at B3 P3 R3 M3 ⊢
  have B3 := Lib.hid B3
  have P3 := Lib.hid P3
  have R3 := Lib.hid R3
  have M3 := Lib.hid M3
  clear hW3 hb3 B2 P2 R2 M2
  go_wp2_with fail
  refine (decode_s1 _ 128 d _ P3.out.reads (by simp only [maxLen]; omega) hd).mono ?_
  rintro e w4 ⟨v, N, rfl, hN, hown, hb4⟩
  obtain ⟨A4, c4, rfl, r4, hc4, hm4⟩ := own_readsE hown
  have B4 := Lib.hid (B3.out.trans (hb4.mono B3.out.size))
  have R4 := R3.out.keep hb4
  have M4 := M3.out.keep hb4
  obtain ⟨W5, hW5⟩ : ∃ W5 : World, W5 = w4.alloc (.cells #[.int .u8 1, .int .u32 5, .slice A4 1 c4] 25) := ⟨_, rfl⟩
  have hb5 : Below w4.heap.size w4 W5 := by rw [hW5]; exact (Below.refl _ _).alloc (Nat.le_refl _) _
  have M5 := Lib.hid (M4.keep hb5)
  have R5 := Lib.hid (R4.keep hb5)
  have r5 := Lib.hid (r4.keep hb5)
  have B5 := Lib.hid (B4.out.trans (hb5.mono B4.out.size))
  have N5 : Hid (MemC W5 w4.heap.size 0 [.int .u8 1, .int .u32 5, .slice A4 1 c4]) := Lib.hid (by rw [hW5]; exact MemC.new w4 [.int .u8 1, .int .u32 5, .slice A4 1 c4] 25)
  have HW5 := Lib.hid hW5
  clear hW5 hb5 hb4 hown r4 R4 M4 B4 B3 P3 R3 M3 hN
  go_upto_region 6 with fail
  rw [← HW5.out]
  clear HW5
  obtain ⟨a0, _⟩ := M5.out.get 0 _ rfl
  obtain ⟨a1, _⟩ := M5.out.get 1 _ rfl
  obtain ⟨a2, _⟩ := M5.out.get 2 _ rfl
  obtain ⟨b0, _⟩ := N5.out.get 0 _ rfl
  obtain ⟨b1, _⟩ := N5.out.get 1 _ rfl
  obtain ⟨b2, _⟩ := N5.out.get 2 _ rfl
  go_wp2_with fail
  refine (eqs_any s1 s1 _ _ 1 1 1 c4 _ R5.out r5.out (by simp only [maxLen]; omega) (by simp only [maxLen]; omega)).mono ?_
  rintro e w6 ⟨rfl, hb6⟩
  rw [show sameS s1 s1 = true from sameS_iff.2 rfl]
  have B6 := Lib.hid (B5.out.trans (hb6.mono B5.out.size))
  have M6 := Lib.hid (M5.out.keep hb6)
  have R6 := Lib.hid (R5.out.keep hb6)
  clear a0 a1 a2 b0 b1 b2 hb6 B5 M5 R5 r5 N5
  go_wp2_with fail
  go_loopw [6, 44] (fun v i wr => ∃ k : Nat, k ≤ 10 ∧ i = .int .u64 k ∧ wr.ownsRow w6.heap.size 37 2 v k (ecells (tenL k)) ∧ Below w6.heap.size w6 wr) (fun _ i _ => 10 - (intOf i).toNat)
  case atStart => exact ⟨0, Nat.zero_le _, rfl, World.ownsRow_nil _ _ _ _, Below.refl _ _⟩
  case round =>
    obtain ⟨k, hk, rfl, hown, hb⟩ := hrel
    have HO := Lib.hid hown; clear hown
    have HB := Lib.hid hb; clear hb
    by_cases hlt : k < 10
    · have ek : ((UInt64.ofNat k).toNat : Int) = (k : Int) := by simp; omega
      have hx : ecell (UInt64.ofNat k, 1) = [.int .u64 (k : Int), .int .u32 1] := by unfold ecell; rw [ek]; rfl
      have HX := Lib.hid hx
      clear hx ek
      go_wp2_with (at_builtin; refine wpList_appendC rfl _ _ 23 rfl w6.heap.size 37 (.agg #[.int .u64 0, .int .u32 0]) 2 16 Try.underlying23 entinfo rfl (by omega) _ k (ecells (tenL k)) rfl (HO.out.alloc _) (some ⟨wr.heap.size, 0, none⟩) 1 1 [.int .u64 (k : Int), .int .u32 1] rfl rfl (MemC.new wr _ 37).cells (by rw [← HX.out]; exact ecell_one _) (by simp only [maxLen]; omega) (by omega) (by have := HB.out.size; simp; omega) ?_)
      intro v' w' hown hgrow hnil hat
      have hb2 : Below w6.heap.size w6 w' := (HB.out.alloc HB.out.size _).grown hgrow (HB.out.alloc HB.out.size _).size (own_base HO.out)
      rw [← HX.out, ← ecells_snoc, ← tenL_succ] at hown
      have HO2 := Lib.hid hown
      have HB2 := Lib.hid hb2
      clear hown hgrow hnil hat hb2 HO HB
      go_wp2_with fail
      go_roundw
      case rel => exact ⟨k + 1, by omega, by go_num, HO2.out, HB2.out⟩
      case measure => simp [intOf]; omega
    · obtain rfl : k = 10 := by omega
      obtain ⟨A7, c7, rfl, r7, _, _⟩ := own_readsE HO.out
      obtain ⟨W8, hW8⟩ : ∃ W8 : World, W8 = wr.alloc (.cells #[.int .u64 1, .int .u32 1] 37) := ⟨_, rfl⟩
      have hb8 : Below wr.heap.size wr W8 := by rw [hW8]; exact (Below.refl _ _).alloc (Nat.le_refl _) _
      have N8 : Hid (MemC W8 wr.heap.size 0 [.int .u64 1, .int .u32 1]) := Lib.hid (by rw [hW8]; exact MemC.new wr [.int .u64 1, .int .u32 1] 37)
      have hb68 : Below w6.heap.size w6 W8 := HB.out.trans (hb8.mono HB.out.size)
      have B8 := Lib.hid (B6.out.trans (hb68.mono B6.out.size))
      have M8 := Lib.hid (M6.out.keep hb68)
      have R8 := Lib.hid (R6.out.keep hb68)
      have T8 := Lib.hid (r7.keep hb8)
      have HW8 := Lib.hid hW8
      have hz1 : wr.heap.size < W8.heap.size := N8.out.at_.lt
      have hz2 : w.heap.size + 1 < W8.heap.size := M8.out.at_.lt
      obtain ⟨b0, o0, e0', hb0, q0, q1⟩ := R8.out.getD (k := 0) (by omega)
      injection e0' with e0'
      injection e0' with ea eb
      subst ea; subst eb
      simp only [Nat.zero_mul, Nat.zero_add] at q0 q1
      have hz3 : w.heap.size < W8.heap.size := hb0
      have hS : ∀ w', Below W8.heap.size W8 w' → w'.cell? ⟨wr.heap.size, 0, none⟩ = some (.int .u64 1) ∧ w'.cell? ⟨wr.heap.size, 1, none⟩ = some (.int .u32 1) ∧ w'.cell? ⟨w.heap.size + 1, 2, none⟩ = some (.slice (some ⟨w.heap.size, 0, none⟩) 1 1) ∧ w'.cell? ⟨w.heap.size, 0, none⟩ = some (.int .u64 9223372036854775808) ∧ w'.cell? ⟨w.heap.size, 1, none⟩ = some (.int .u32 6) := fun w' hb =>
        ⟨(hb.cell (p := ⟨_, 0, none⟩) hz1).trans (N8.out.get 0 _ rfl).1, (hb.cell (p := ⟨_, 1, none⟩) hz1).trans (N8.out.get 1 _ rfl).1, (hb.cell (p := ⟨_, 2, none⟩) hz2).trans (M8.out.get 2 _ rfl).1, (hb.cell (p := ⟨_, 0, none⟩) hz3).trans q0, (hb.cell (p := ⟨_, 1, none⟩) hz3).trans q1⟩
      have HS := Lib.hid hS
      have HB := Lib.hid (Below.refl W8.heap.size W8)
      have s0 := hS W8 (Below.refl _ _)
      obtain ⟨p0, p1, p2, p3, p4⟩ := s0
      clear hW8 hb8 hb68 r7 HO B6 M6 R6 q0 q1 hb0 hz1 hz2 hz3 hS
      go_upto_region 15 with fail
      rw [← HW8.out]
      clear HW8
      go_region_held3 (fun w' => w'.cell? ⟨wr.heap.size, 0, none⟩ = some (.int .u64 1) ∧ w'.cell? ⟨wr.heap.size, 1, none⟩ = some (.int .u32 1) ∧ w'.cell? ⟨w.heap.size + 1, 2, none⟩ = some (.slice (some ⟨w.heap.size, 0, none⟩) 1 1) ∧ w'.cell? ⟨w.heap.size, 0, none⟩ = some (.int .u64 9223372036854775808) ∧ w'.cell? ⟨w.heap.size, 1, none⟩ = some (.int .u32 6))
        (first | exact HS.out _ HB.out | exact HS.out _ HB.out.drew | exact HS.out _ (HB.out.alloc HB.out.size _) | exact HS.out _ (HB.out.alloc HB.out.size _).drew | exact HS.out _ (HB.out.drew.alloc HB.out.drew.size _))
        ((first
          | (go_at_call 20; (with_reducible refine (wrong_a _ _ ?_ ?_ ?_ ?_).mono ?_); (exact new_cell _ _ _ _ rfl 0 _ rfl); (exact new_cell _ _ _ _ rfl 1 _ rfl); (exact new_cell _ _ _ _ rfl 2 _ rfl); (exact new_cell _ _ _ _ rfl 3 _ rfl); rintro e w' ⟨rfl, hb⟩; have HB := Lib.hid ((HB.out.alloc HB.out.size _).drew.trans (hb.mono (HB.out.alloc HB.out.size _).drew.size)); clear hb)
          | (go_at_call 20; (with_reducible refine (wrong_b _).mono ?_); rintro e w' ⟨rfl, hb⟩; have HB := Lib.hid (HB.out.trans (hb.mono HB.out.size)); clear hb)
          | (go_at_call 20; (with_reducible refine (wrong_c _).mono ?_); rintro e w' ⟨rfl, hb⟩; have HB := Lib.hid (HB.out.trans (hb.mono HB.out.size)); clear hb)
          | (go_at_call 20; (with_reducible refine (wrong_d _ _ ?_ ?_).mono ?_); (exact new_cell _ _ _ _ rfl 0 _ rfl); (exact new_cell _ _ _ _ rfl 1 _ rfl); rintro e w' ⟨rfl, hb⟩; have HB := Lib.hid ((HB.out.alloc HB.out.size _).trans (hb.mono (HB.out.alloc HB.out.size _).size)); clear hb)
          | (go_at_call 20; (with_reducible refine (wrong_e _ _ ?_ ?_ ?_ ?_).mono ?_); (exact new_cell _ _ _ _ rfl 0 _ rfl); (exact new_cell _ _ _ _ rfl 1 _ rfl); (exact new_cell _ _ _ _ rfl 2 _ rfl); (exact new_cell _ _ _ _ rfl 3 _ rfl); rintro e w' ⟨rfl, hb⟩; have HB := Lib.hid ((HB.out.alloc HB.out.size _).trans (hb.mono (HB.out.alloc HB.out.size _).size)); clear hb)
          | (go_at_call 20; (with_reducible refine (wrong_f _ _ _ ?_).mono ?_); (exact T8.out.keep HB.out); rintro e w' ⟨rfl, hb⟩; have HB := Lib.hid (HB.out.trans (hb.mono HB.out.size)); clear hb)
          | (go_at_call 8; (with_reducible refine (right_g _).mono ?_); rintro e w' ⟨rfl, hb⟩; have HB := Lib.hid (HB.out.trans (hb.mono HB.out.size)); clear hb)))
      all_goals
        go_wp2_with fail
        go_ret
        exact ⟨rfl, B8.out.trans (HB.out.mono B8.out.size)⟩

end Go.Proofs.Ytcljobkdihbflaa
