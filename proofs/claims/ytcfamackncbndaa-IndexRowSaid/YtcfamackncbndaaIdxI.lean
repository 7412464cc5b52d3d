/-
  index.Decode: all ways; catchmentlaw05.other, awake.
-/
import Derived.Test.YtcfamackncbndaaIdxH
namespace Go.Proofs.Ytcfamackncbndaa
open Go.RowKit
set_option linter.unusedVariables false

/-- What is read of a page lies in memory of its own. -/
theorem decode_own (A : Option Addr) (n c : Nat) (kind : UInt8) (p : List UInt8) (w : World) (h : Reads8 w A n p) (hn : n ≤ maxLen) (hnc : n ≤ c) (hi : isIdx kind p = true) :
    Calls Try.prog 13 #[.int .u8 (kind.toNat : Int), .slice A n c] w fun e w' => ∃ v, e = .returned (.tuple #[v, .int .i64 0]) ∧ ∃ N, w.heap.size ≤ N ∧ w'.ownsRow N 43 1 v (idxOf p).length (wcells (idxOf p)) ∧ v ≠ .slice none 0 0 ∧ Below w.heap.size w w' := by
  have h1 := hi
  unfold isIdx at h1
  simp only [Bool.and_eq_true, decide_eq_true_eq, beq_iff_eq] at h1
  refine (decode_good A n c kind p w h hn hnc h1.1.1.1.1 h1.1.1.1.2 h1.1.1.2 h1.1.2).mono ?_
  rintro e w' (⟨_, h2⟩ | ⟨h2, _⟩)
  · exact h2
  · rw [hi] at h2
    cases h2

theorem decode_no (A : Option Addr) (n c : Nat) (kind : UInt8) (p : List UInt8) (w : World) (h : Reads8 w A n p) (hn : n ≤ maxLen) (hnc : n ≤ c) (hi : isIdx kind p = false) :
    Calls Try.prog 13 #[.int .u8 (kind.toNat : Int), .slice A n c] w fun e w' => e = .returned (.tuple #[.slice none 0 0, .int .i64 50]) ∧ Below w.heap.size w w' := by
  cases hp : isPage p
  · exact decode_none A n c kind p w h hn hnc hp
  · by_cases hk : p.headD 0 = kind
    · cases hr : rightK kind
      · exact decode_bad A n c kind p w h hn hnc hp (.inr (.inl ⟨hk, hr⟩))
      · by_cases hm : manyOf p ≤ 61
        · refine (decode_good A n c kind p w h hn hnc hp hk hr hm).mono ?_
          rintro e w' (⟨h2, _⟩ | ⟨_, h2⟩)
          · rw [hi] at h2
            cases h2
          · exact h2
        · exact decode_bad A n c kind p w h hn hnc hp (.inr (.inr ⟨hk, hr, by omega⟩))
    · exact decode_bad A n c kind p w h hn hnc hp (.inl hk)

theorem decode_u (A : Option Addr) (n c : Nat) (kind : UInt8) (p : List UInt8) (w : World) (h : Reads8 w A n p) (hn : n ≤ maxLen) (hnc : n ≤ c) :
    Calls Try.prog 13 #[.int .u8 (kind.toNat : Int), .slice A n c] w fun e w' => RetW w w' (fun v => .tuple #[v, .int .i64 (decE kind p)]) (decL kind p) e := by
  unfold decE decL
  cases hi : isIdx kind p
  · exact (decode_no A n c kind p w h hn hnc hi).mono fun e w' ⟨he, hb⟩ => ⟨_, _, _, he, ReadsW.nil _ _, Nat.le_refl _, by simp [maxLen], hb⟩
  · refine (decode_own A n c kind p w h hn hnc hi).mono ?_
    rintro e w' ⟨v, rfl, N, hN, hown, _, hb⟩
    obtain ⟨A', c', rfl, h1, h2, h3, _⟩ := own_readsW hown
    exact ⟨A', _, c', rfl, h1, h2, h3, hb⟩

def otherK (kind : UInt8) : UInt8 := 9 - kind
theorem other_any (kind : UInt8) (w : World) (h : kind = 4 ∨ kind = 5) : Calls Try.prog 21 #[.int .u8 (kind.toNat : Int)] w fun e w' => e = .returned (.int .u8 ((otherK kind).toNat : Int)) ∧ w = w' := by
  rcases h with rfl | rfl
  · rw [show (((4 : UInt8).toNat : Nat) : Int) = 4 from rfl, show (((otherK 4).toNat : Nat) : Int) = 5 from rfl]
    go_enter Try.func21, Try.ntmps21
    go_wp2
    go_ret
    exact ⟨rfl, rfl⟩
  · rw [show (((5 : UInt8).toNat : Nat) : Int) = 5 from rfl, show (((otherK 5).toNat : Nat) : Int) = 4 from rfl]
    go_enter Try.func21, Try.ntmps21
    go_wp2
    go_ret
    exact ⟨rfl, rfl⟩

theorem MemC.reads {w : World} {b : Nat} {l : List UInt16} (h : MemC w b 0 (wcells l)) : ReadsW w (some ⟨b, 0, none⟩) l.length l := ⟨rfl, h.cells⟩

/-- What was awake's first page. -/
def page0 : List UInt8 := pageOf 4 (ibody [258, 7])
theorem page0_length : page0.length = 128 := pageOf_length 4 _ (by decide)
theorem page0_4 : isIdx 4 page0 = true ∧ idxOf page0 = [258, 7] := idx_of_page 4 [258, 7] (by decide) (by decide)
theorem page0_5 : isIdx 5 page0 = false := by
  cases h : isIdx 5 page0
  · rfl
  · have := isIdx_head 5 page0 h
    have h2 : page0.headD 0 = 4 := isIdx_head 4 page0 page0_4.1
    rw [h2] at this
    exact absurd this (by decide)

set_option maxHeartbeats 2000000 in
set_option maxRecDepth 100000 in
theorem awake_any (w : World) : Calls Try.prog 9 #[] w fun e w' => e = .returned (.bool true) ∧ Below w.heap.size w w' := by
  obtain ⟨i0, hi, hz0, hz1, hz2⟩ := info_parts u16info
  go_enter Try.func9, Try.ntmps9
  go_wp2_with fail
  have B0 := Lib.hid ((Below.refl w.heap.size w).alloc (Nat.le_refl _) (.cells #[.int .u16 258, .int .u16 7] 43))
  have R0 : ReadsW (w.alloc (.cells #[.int .u16 258, .int .u16 7] 43)) (some ⟨w.heap.size, 0, none⟩) 2 [258, 7] := (MemC.new w (wcells [258, 7]) 43).reads
  refine (encode_right _ 2 2 4 [258, 7] _ R0 (by decide) (by omega)).mono ?_
  rintro e w1 ⟨v, rfl, hF⟩
  obtain ⟨g, d, rfl, hg, hd, hdm, hM, hB⟩ := hF.open_ page0_length
  replace hM : Mem8 w1 g 0 128 page0 := hM
  have B1 := Lib.hid (B0.out.trans (hB.mono B0.out.size))
  have M1 := Lib.hid hM
  clear hM hB hF R0 B0
  have hd7 : (7 : Int) ≤ (d : Int) := by omega
  have hdn : ¬ d = 0 := by omega
  go_wp2_with fail
  have B2 := Lib.hid (B1.out.alloc B1.out.size (.cells #[.int .u8 4, .int .u8 2, .int .u8 1, .int .u8 2, .int .u8 0, .int .u8 7, .int .u8 0] 5))
  have M2 := Lib.hid (M1.out.keep ((Below.refl _ w1).alloc (Nat.le_refl _) (.cells #[.int .u8 4, .int .u8 2, .int .u8 1, .int .u8 2, .int .u8 0, .int .u8 7, .int .u8 0] 5)))
  have R7 := (M2.out.sub 0 7 (by omega)).reads
  rw [show (page0.drop 0).take 7 = [4, 2, 1, 2, 0, 7, 0] from by rfl] at R7
  refine (equal_any _ _ 7 7 d 7 [4, 2, 1, 2, 0, 7, 0] [4, 2, 1, 2, 0, 7, 0] _ R7 (Blk8.new w1 [4, 2, 1, 2, 0, 7, 0]).mem.reads).mono ?_
  rintro e w' ⟨rfl, rfl⟩
  rw [show same8 [4, 2, 1, 2, 0, 7, 0] [4, 2, 1, 2, 0, 7, 0] = true from by decide]
  clear R7 B1 M1
  obtain ⟨W2, hW2⟩ : ∃ W2 : World, W2 = w1.alloc (.cells #[.int .u8 4, .int .u8 2, .int .u8 1, .int .u8 2, .int .u8 0, .int .u8 7, .int .u8 0] 5) := ⟨_, rfl⟩
  rw [← hW2] at B2 M2 ⊢
  clear hW2
  go_wp2_with fail
  refine (decode_own _ 128 d 4 page0 _ M2.out.reads (by simp only [maxLen]; omega) hd page0_4.1).mono ?_
  rintro e w3 ⟨v, rfl, N, hN, hown, _, hb⟩
  rw [page0_4.2] at hown
  obtain ⟨A3, c3, rfl, r3, _, _, _⟩ := own_readsW hown
  have R3 := Lib.hid r3
  have B3 := Lib.hid (B2.out.trans (hb.mono B2.out.size))
  have M3 := Lib.hid (M2.out.keep hb)
  clear r3 hown hb hN B2 M2
  go_wp2_with fail
  refine (decode_no _ 128 d 5 page0 _ M3.out.reads (by simp only [maxLen]; omega) hd page0_5).mono ?_
  rintro e w4 ⟨rfl, hb⟩
  have B4 := Lib.hid (B3.out.trans (hb.mono B3.out.size))
  have R4 := Lib.hid (R3.out.keep hb)
  clear hb B3 R3 M3
  go_wp2_with fail
  refine (encode_wrong none 0 0 3 _ (by simp only [maxLen]; omega) (.inl (by decide))).mono ?_
  rintro e w' ⟨rfl, rfl⟩
  go_wp2_with (at_make; refine wpList_make_full _ rfl _ _ 22 rfl w.heap.size 43 i0 (.int .u16 0) 1 Try.underlying22 hi hz0 hz1 .i64 .i64 62 62 62 rfl rfl (by omega) (by omega) (by rw [hz2]; omega) (by simp only [maxLen]; omega) B4.out.size ?_)
  intro w5 hown hgrow
  have hb5 : Below w4.heap.size w4 w5 := (Below.refl _ _).grown hgrow (Nat.le_refl _) (by intro k hk; cases hk)
  have B5 := Lib.hid (B4.out.trans (hb5.mono B4.out.size))
  have R5 := Lib.hid (R4.out.keep hb5)
  clear hown hgrow hb5 B4 R4 hi hz0 hz1 hz2 i0
  go_wp2_with fail
  refine (encode_wrong _ 62 62 5 _ (by simp only [maxLen]; omega) (.inr (by omega))).mono ?_
  rintro e w' ⟨rfl, rfl⟩
  go_wp2_with fail
  refine (place_any 61 _ (by omega) (by omega)).mono ?_
  rintro e w' ⟨rfl, rfl⟩
  rw [show placeP 61 = 1 from by decide, show placeI 61 = 0 from by decide]
  go_wp2_with fail
  refine (place_any (-1) _ (by omega) (by omega)).mono ?_
  rintro e w' ⟨rfl, rfl⟩
  rw [show placeP (-1) = -1 from by decide, show placeI (-1) = -1 from by decide]
  go_wp2_with fail
  have B6 := Lib.hid (B5.out.alloc B5.out.size (.cells #[.int .u16 258, .int .u16 7] 43))
  have R6 := Lib.hid (R5.out.keep ((Below.refl _ w5).alloc (Nat.le_refl _) (.cells #[.int .u16 258, .int .u16 7] 43)))
  refine (eqwords_any _ _ 2 2 c3 2 [258, 7] [258, 7] _ R6.out (MemC.new w5 (wcells [258, 7]) 43).reads (by simp only [maxLen]; omega) (by simp only [maxLen]; omega)).mono ?_
  rintro e w6 ⟨rfl, hq⟩
  rw [show sameW [258, 7] [258, 7] = true from by decide]
  have B7 := Lib.hid (B6.out.trans (hq.below.mono B6.out.size))
  clear hq B6 R6 B5 R5
  go_wp2_with fail
  refine (pages_any 61 _ (by omega) (by omega)).mono ?_
  rintro e w' ⟨rfl, rfl⟩
  rw [show pagesOf 61 = 1 from by decide]
  go_wp2_with fail
  refine (pages_any 62 _ (by omega) (by omega)).mono ?_
  rintro e w' ⟨rfl, rfl⟩
  rw [show pagesOf 62 = 2 from by decide]
  go_wp2_with fail
  refine (pages_any 0 _ (by omega) (by omega)).mono ?_
  rintro e w' ⟨rfl, rfl⟩
  rw [show pagesOf 0 = 0 from by decide]
  go_wp2_with fail
  refine (pages_any (-5) _ (by omega) (by omega)).mono ?_
  rintro e w' ⟨rfl, rfl⟩
  rw [show pagesOf (-5) = 0 from by decide]
  go_wp2_with fail
  go_ret
  exact ⟨rfl, B7.out⟩

end Go.Proofs.Ytcfamackncbndaa
