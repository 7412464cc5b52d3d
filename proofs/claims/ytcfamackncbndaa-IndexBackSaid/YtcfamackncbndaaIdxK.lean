/-
  IndexBack: the walk.
-/
import Derived.Test.YtcfamackncbndaaIdxJ
namespace Go.Proofs.Ytcfamackncbndaa
open Go.RowKit
set_option linter.unusedVariables false

theorem encE_eq (kind : UInt8) (l : List UInt16) (m : Nat) (hl : l.length = m) (hr : rightK kind = true) : (encE kind l == 0) = decide ((m : Int) ≤ 61) := by
  unfold encE encOK
  rw [hr, hl]
  by_cases h : m ≤ 61
  · simp [h]; omega
  · simp [h]; omega

theorem encE_yes (kind : UInt8) (l : List UInt16) (m : Nat) (hl : l.length = m) (hr : rightK kind = true) (h : m ≤ 61) : encE kind l = 0 := by
  unfold encE encOK
  rw [hr, hl]
  simp [h]
theorem encE_no (kind : UInt8) (l : List UInt16) (m : Nat) (hl : l.length = m) (hr : rightK kind = true) (h : 61 < m) : encE kind l = 50 := by
  unfold encE encOK
  rw [hr, hl]
  simp [h]

theorem page_same (kind : UInt8) (l k : List UInt16) (hr : rightK kind = true) (hl : l.length ≤ 61) (hk : k.length ≤ 61) : same8 (pageOf kind (ibody l)) (pageOf kind (ibody k)) = sameW l k := by
  rw [Bool.eq_iff_iff, same8_iff, sameW_iff]
  exact ⟨ipage_inj kind l k hr hl hk, fun e => by rw [e]⟩

theorem other_page (kind : UInt8) (l : List UInt16) (h : kind = 4 ∨ kind = 5) (hl : l.length ≤ 61) : isIdx (otherK kind) (pageOf kind (ibody l)) = false := by
  cases hi : isIdx (otherK kind) (pageOf kind (ibody l))
  · rfl
  · have h1 := isIdx_head _ _ hi
    rw [page_head] at h1
    rcases h with rfl | rfl
    · exact absurd h1 (by decide)
    · exact absurd h1 (by decide)

set_option maxHeartbeats 2000000 in
set_option maxRecDepth 100000 in
theorem back_long4 (A : Option Addr) (n c : Nat) (B : Option Addr) (m d : Nat) (l k : List UInt16) (w : World) (h : ReadsW w A n l) (g : ReadsW w B m k) (hn : n ≤ 80) (hm : m ≤ 80) (hnl : 61 < n) :
    Calls Try.prog 4 #[.slice A n c, .slice B m d, .bool false] w fun e w' => e = .returned (.bool true) ∧ Below w.heap.size w w' := by
  have hl := Lib.hid h.1
  have hk := Lib.hid g.1
  have HL := Lib.hid h; clear h
  have HK := Lib.hid g; clear g
  have hE2 := encE_eq 4 k m hk.out (by decide)
  have hni : ¬ (n : Int) ≤ 61 := by omega
  go_enter Try.func4, Try.ntmps4
  go_wp2_with fail
  refine (encode_wrong A n c 4 _ (by simp only [maxLen]; omega) (.inr hnl)).mono ?_
  rintro e w' ⟨rfl, rfl⟩
  have HK1 := HK
  go_wp2_with fail
  refine (encode_u B m d 4 k _ HK1.out (by simp only [maxLen]; omega)).mono ?_
  rintro e w2 ⟨A2, n2, c2, rfl, r2, hnc2, hb⟩
  have B2 := Lib.hid hb
  clear hb r2
  generalize encE 4 k = E2 at *
  go_wp2_with fail
  refine (awake_any _).mono ?_
  rintro e w' ⟨rfl, hb⟩
  have B3 := Lib.hid (B2.out.trans (hb.mono B2.out.size)); clear hb
  go_wp2_with fail
  go_ret
  exact ⟨rfl, B3.out⟩

set_option maxHeartbeats 2000000 in
set_option maxRecDepth 100000 in
theorem back_one4 (A : Option Addr) (n c : Nat) (B : Option Addr) (m d : Nat) (l k : List UInt16) (w : World) (h : ReadsW w A n l) (g : ReadsW w B m k) (hn : n ≤ 80) (hm : m ≤ 80) (hnl : n ≤ 61) (hml : 61 < m) :
    Calls Try.prog 4 #[.slice A n c, .slice B m d, .bool false] w fun e w' => e = .returned (.bool true) ∧ Below w.heap.size w w' := by
  have hl := Lib.hid h.1
  have hk := Lib.hid g.1
  have HL := Lib.hid h; clear h
  have HK := Lib.hid g; clear g
  have hE2 := encE_no 4 k m hk.out (by decide) (by omega)
  have HE2 := Lib.hid hE2; clear hE2
  have hni : (n : Int) ≤ 61 := by omega
  have hmi : ¬ (m : Int) ≤ 61 := by omega
  have hid := idx_of_page 4 l (by decide) (by have := hl.out; omega)
  have hot := other_page 4 l (by decide) (by have := hl.out; omega)
  have hpl := pageOf_length 4 (ibody l) (by rw [ibody_length]; have := hl.out; omega)
  have HI := Lib.hid hid; clear hid
  have HO := Lib.hid hot; clear hot
  have HPL := Lib.hid hpl; clear hpl
  go_enter Try.func4, Try.ntmps4
  go_wp2_with fail
  refine (encode_right A n c 4 l _ HL.out (by decide) hnl).mono ?_
  rintro e w1 ⟨v, rfl, hF⟩
  obtain ⟨g1, d1, rfl, hg1, hd1, hdm1, hM1, hB⟩ := hF.open_ HPL.out
  have B1 := Lib.hid hB
  have HL1 := Lib.hid (HL.out.keep hB)
  have HK1 := Lib.hid (HK.out.keep hB)
  have P1 := Lib.hid hM1.reads
  clear hF hB hM1 HL HK
  go_wp2_with fail
  refine (encode_u B m d 4 k _ HK1.out (by simp only [maxLen]; omega)).mono ?_
  rintro e w2 ⟨A2, n2, c2, rfl, r2, hnc2, hb⟩
  have B2 := Lib.hid (B1.out.trans (hb.mono B1.out.size))
  have HL2 := Lib.hid (HL1.out.keep hb)
  have HK2 := Lib.hid (HK1.out.keep hb)
  have P2 := Lib.hid (P1.out.keep hb)
  have Q2 := Lib.hid r2
  clear hb r2 B1 HL1 HK1 P1
  rw [HE2.out]
  generalize pageOf 4 (ibody l) = p at *
  go_wp2_with fail
  refine (decode_u _ 128 d1 4 p _ P2.out (by simp only [maxLen]; omega) hd1).mono ?_
  rintro e w3 ⟨A3, n3, c3, rfl, r3, hnc3, hcm3, hb⟩
  have e1 : decL 4 p = l := by unfold decL; rw [if_pos HI.out.1, HI.out.2]
  have e2 : decE 4 p = 0 := by unfold decE; rw [if_pos HI.out.1]
  rw [e1] at r3
  rw [e2]
  obtain rfl : n3 = n := r3.1.symm.trans hl.out
  have B3 := Lib.hid (B2.out.trans (hb.mono B2.out.size))
  have HL3 := Lib.hid (HL2.out.keep hb)
  have HK3 := Lib.hid (HK2.out.keep hb)
  have P3 := Lib.hid (P2.out.keep hb)
  have Q3 := Lib.hid (Q2.out.keep hb)
  have R3 := Lib.hid r3
  clear hb r3 e1 e2 B2 HL2 HK2 P2 Q2
  go_wp2_with fail
  refine (other_any 4 _ (by decide)).mono ?_
  rintro e w' ⟨rfl, rfl⟩
  generalize otherK 4 = ok at *
  go_wp2_with fail
  refine (decode_no _ 128 d1 ok p _ P3.out (by simp only [maxLen]; omega) hd1 HO.out).mono ?_
  rintro e w4 ⟨rfl, hb⟩
  have B4 := Lib.hid (B3.out.trans (hb.mono B3.out.size))
  have HL4 := Lib.hid (HL3.out.keep hb)
  have HK4 := Lib.hid (HK3.out.keep hb)
  have P4 := Lib.hid (P3.out.keep hb)
  have Q4 := Lib.hid (Q3.out.keep hb)
  have R4 := Lib.hid (R3.out.keep hb)
  clear hb B3 HL3 HK3 P3 Q3 R3
  go_wp2_with fail
  refine (eqwords_any _ _ n3 n3 c3 c _ _ _ R4.out HL4.out (by simp only [maxLen]; omega) (by simp only [maxLen]; omega)).mono ?_
  rintro e w5 ⟨rfl, hq⟩
  rw [show sameW l l = true from sameW_iff.2 rfl]
  have hb := hq.below
  have B5 := Lib.hid (B4.out.trans (hb.mono B4.out.size))
  have HL5 := Lib.hid (HL4.out.keep hb)
  have HK5 := Lib.hid (HK4.out.keep hb)
  have P5 := Lib.hid (P4.out.keep hb)
  have Q5 := Lib.hid (Q4.out.keep hb)
  clear hb hq B4 HL4 HK4 P4 Q4 R4
  go_wp2_with fail
  refine (awake_any _).mono ?_
  rintro e w' ⟨rfl, hb⟩
  have B7 := Lib.hid (B5.out.trans (hb.mono B5.out.size)); clear hb
  go_wp2_with fail
  go_ret
  exact ⟨rfl, B7.out⟩

set_option maxHeartbeats 2000000 in
set_option maxRecDepth 100000 in
theorem back_two4 (A : Option Addr) (n c : Nat) (B : Option Addr) (m d : Nat) (l k : List UInt16) (w : World) (h : ReadsW w A n l) (g : ReadsW w B m k) (hn : n ≤ 80) (hm : m ≤ 80) (hnl : n ≤ 61) (hml : m ≤ 61) :
    Calls Try.prog 4 #[.slice A n c, .slice B m d, .bool false] w fun e w' => e = .returned (.bool true) ∧ Below w.heap.size w w' := by
  have hl := Lib.hid h.1
  have hk := Lib.hid g.1
  have HL := Lib.hid h; clear h
  have HK := Lib.hid g; clear g
  have hE2 := encE_yes 4 k m hk.out (by decide) (by omega)
  have HE2 := Lib.hid hE2; clear hE2
  have hni : (n : Int) ≤ 61 := by omega
  have hmi : (m : Int) ≤ 61 := by omega
  have hid := idx_of_page 4 l (by decide) (by have := hl.out; omega)
  have hot := other_page 4 l (by decide) (by have := hl.out; omega)
  have hsm := page_same 4 l k (by decide) (by have := hl.out; omega) (by have := hk.out; omega)
  have HSM := Lib.hid hsm; clear hsm
  have hcl : encL 4 k = pageOf 4 (ibody k) := by unfold encL encOK; rw [if_pos (by simp [rightK]; have := hk.out; omega)]
  have hpl := pageOf_length 4 (ibody l) (by rw [ibody_length]; have := hl.out; omega)
  have HI := Lib.hid hid; clear hid
  have HO := Lib.hid hot; clear hot
  have HPL := Lib.hid hpl; clear hpl
  go_enter Try.func4, Try.ntmps4
  go_wp2_with fail
  refine (encode_right A n c 4 l _ HL.out (by decide) hnl).mono ?_
  rintro e w1 ⟨v, rfl, hF⟩
  obtain ⟨g1, d1, rfl, hg1, hd1, hdm1, hM1, hB⟩ := hF.open_ HPL.out
  have B1 := Lib.hid hB
  have HL1 := Lib.hid (HL.out.keep hB)
  have HK1 := Lib.hid (HK.out.keep hB)
  have P1 := Lib.hid hM1.reads
  clear hF hB hM1 HL HK
  go_wp2_with fail
  refine (encode_u B m d 4 k _ HK1.out (by simp only [maxLen]; omega)).mono ?_
  rintro e w2 ⟨A2, n2, c2, rfl, r2, hnc2, hb⟩
  have B2 := Lib.hid (B1.out.trans (hb.mono B1.out.size))
  have HL2 := Lib.hid (HL1.out.keep hb)
  have HK2 := Lib.hid (HK1.out.keep hb)
  have P2 := Lib.hid (P1.out.keep hb)
  rw [hcl] at r2
  have Q2 := Lib.hid r2
  clear hb r2 B1 HL1 HK1 P1 hcl
  rw [HE2.out]
  generalize pageOf 4 (ibody l) = p at *
  go_wp2_with fail
  refine (decode_u _ 128 d1 4 p _ P2.out (by simp only [maxLen]; omega) hd1).mono ?_
  rintro e w3 ⟨A3, n3, c3, rfl, r3, hnc3, hcm3, hb⟩
  have e1 : decL 4 p = l := by unfold decL; rw [if_pos HI.out.1, HI.out.2]
  have e2 : decE 4 p = 0 := by unfold decE; rw [if_pos HI.out.1]
  rw [e1] at r3
  rw [e2]
  obtain rfl : n3 = n := r3.1.symm.trans hl.out
  have B3 := Lib.hid (B2.out.trans (hb.mono B2.out.size))
  have HL3 := Lib.hid (HL2.out.keep hb)
  have HK3 := Lib.hid (HK2.out.keep hb)
  have P3 := Lib.hid (P2.out.keep hb)
  have Q3 := Lib.hid (Q2.out.keep hb)
  have R3 := Lib.hid r3
  clear hb r3 e1 e2 B2 HL2 HK2 P2 Q2
  go_wp2_with fail
  refine (other_any 4 _ (by decide)).mono ?_
  rintro e w' ⟨rfl, rfl⟩
  generalize otherK 4 = ok at *
  go_wp2_with fail
  refine (decode_no _ 128 d1 ok p _ P3.out (by simp only [maxLen]; omega) hd1 HO.out).mono ?_
  rintro e w4 ⟨rfl, hb⟩
  have B4 := Lib.hid (B3.out.trans (hb.mono B3.out.size))
  have HL4 := Lib.hid (HL3.out.keep hb)
  have HK4 := Lib.hid (HK3.out.keep hb)
  have P4 := Lib.hid (P3.out.keep hb)
  have Q4 := Lib.hid (Q3.out.keep hb)
  have R4 := Lib.hid (R3.out.keep hb)
  clear hb B3 HL3 HK3 P3 Q3 R3
  go_wp2_with fail
  refine (eqwords_any _ _ n3 n3 c3 c _ _ _ R4.out HL4.out (by simp only [maxLen]; omega) (by simp only [maxLen]; omega)).mono ?_
  rintro e w5 ⟨rfl, hq⟩
  rw [show sameW l l = true from sameW_iff.2 rfl]
  have hb := hq.below
  have B5 := Lib.hid (B4.out.trans (hb.mono B4.out.size))
  have HL5 := Lib.hid (HL4.out.keep hb)
  have HK5 := Lib.hid (HK4.out.keep hb)
  have P5 := Lib.hid (P4.out.keep hb)
  have Q5 := Lib.hid (Q4.out.keep hb)
  clear hb hq B4 HL4 HK4 P4 Q4 R4
  go_wp2_with fail
  refine (equal_any _ _ 128 n2 d1 c2 _ _ _ P5.out Q5.out).mono ?_
  rintro e w' ⟨rfl, rfl⟩
  rw [HSM.out]
  generalize hs : sameW l k = s at *
  have HS := Lib.hid hs; clear hs
  go_wp2_with fail
  refine (eqwords_any _ _ n3 m c d _ _ _ HL5.out HK5.out (by simp only [maxLen]; omega) (by simp only [maxLen]; omega)).mono ?_
  rintro e w6 ⟨rfl, hq⟩
  rw [HS.out]
  have hb := hq.below
  have B6 := Lib.hid (B5.out.trans (hb.mono B5.out.size))
  clear hb hq B5
  go_wp2_with fail
  refine (awake_any _).mono ?_
  rintro e w' ⟨rfl, hb⟩
  have B7 := Lib.hid (B6.out.trans (hb.mono B6.out.size)); clear hb
  go_wp2_with fail
  go_ret
  exact ⟨rfl, B7.out⟩

set_option maxHeartbeats 2000000 in
set_option maxRecDepth 100000 in
theorem back_long5 (A : Option Addr) (n c : Nat) (B : Option Addr) (m d : Nat) (l k : List UInt16) (w : World) (h : ReadsW w A n l) (g : ReadsW w B m k) (hn : n ≤ 80) (hm : m ≤ 80) (hnl : 61 < n) :
    Calls Try.prog 4 #[.slice A n c, .slice B m d, .bool true] w fun e w' => e = .returned (.bool true) ∧ Below w.heap.size w w' := by
  have hl := Lib.hid h.1
  have hk := Lib.hid g.1
  have HL := Lib.hid h; clear h
  have HK := Lib.hid g; clear g
  have hE2 := encE_eq 5 k m hk.out (by decide)
  have hni : ¬ (n : Int) ≤ 61 := by omega
  go_enter Try.func4, Try.ntmps4
  go_wp2_with fail
  refine (encode_wrong A n c 5 _ (by simp only [maxLen]; omega) (.inr hnl)).mono ?_
  rintro e w' ⟨rfl, rfl⟩
  have HK1 := HK
  go_wp2_with fail
  refine (encode_u B m d 5 k _ HK1.out (by simp only [maxLen]; omega)).mono ?_
  rintro e w2 ⟨A2, n2, c2, rfl, r2, hnc2, hb⟩
  have B2 := Lib.hid hb
  clear hb r2
  generalize encE 5 k = E2 at *
  go_wp2_with fail
  refine (awake_any _).mono ?_
  rintro e w' ⟨rfl, hb⟩
  have B3 := Lib.hid (B2.out.trans (hb.mono B2.out.size)); clear hb
  go_wp2_with fail
  go_ret
  exact ⟨rfl, B3.out⟩

set_option maxHeartbeats 2000000 in
set_option maxRecDepth 100000 in
theorem back_one5 (A : Option Addr) (n c : Nat) (B : Option Addr) (m d : Nat) (l k : List UInt16) (w : World) (h : ReadsW w A n l) (g : ReadsW w B m k) (hn : n ≤ 80) (hm : m ≤ 80) (hnl : n ≤ 61) (hml : 61 < m) :
    Calls Try.prog 4 #[.slice A n c, .slice B m d, .bool true] w fun e w' => e = .returned (.bool true) ∧ Below w.heap.size w w' := by
  have hl := Lib.hid h.1
  have hk := Lib.hid g.1
  have HL := Lib.hid h; clear h
  have HK := Lib.hid g; clear g
  have hE2 := encE_no 5 k m hk.out (by decide) (by omega)
  have HE2 := Lib.hid hE2; clear hE2
  have hni : (n : Int) ≤ 61 := by omega
  have hmi : ¬ (m : Int) ≤ 61 := by omega
  have hid := idx_of_page 5 l (by decide) (by have := hl.out; omega)
  have hot := other_page 5 l (by decide) (by have := hl.out; omega)
  have hpl := pageOf_length 5 (ibody l) (by rw [ibody_length]; have := hl.out; omega)
  have HI := Lib.hid hid; clear hid
  have HO := Lib.hid hot; clear hot
  have HPL := Lib.hid hpl; clear hpl
  go_enter Try.func4, Try.ntmps4
  go_wp2_with fail
  refine (encode_right A n c 5 l _ HL.out (by decide) hnl).mono ?_
  rintro e w1 ⟨v, rfl, hF⟩
  obtain ⟨g1, d1, rfl, hg1, hd1, hdm1, hM1, hB⟩ := hF.open_ HPL.out
  have B1 := Lib.hid hB
  have HL1 := Lib.hid (HL.out.keep hB)
  have HK1 := Lib.hid (HK.out.keep hB)
  have P1 := Lib.hid hM1.reads
  clear hF hB hM1 HL HK
  go_wp2_with fail
  refine (encode_u B m d 5 k _ HK1.out (by simp only [maxLen]; omega)).mono ?_
  rintro e w2 ⟨A2, n2, c2, rfl, r2, hnc2, hb⟩
  have B2 := Lib.hid (B1.out.trans (hb.mono B1.out.size))
  have HL2 := Lib.hid (HL1.out.keep hb)
  have HK2 := Lib.hid (HK1.out.keep hb)
  have P2 := Lib.hid (P1.out.keep hb)
  have Q2 := Lib.hid r2
  clear hb r2 B1 HL1 HK1 P1
  rw [HE2.out]
  generalize pageOf 5 (ibody l) = p at *
  go_wp2_with fail
  refine (decode_u _ 128 d1 5 p _ P2.out (by simp only [maxLen]; omega) hd1).mono ?_
  rintro e w3 ⟨A3, n3, c3, rfl, r3, hnc3, hcm3, hb⟩
  have e1 : decL 5 p = l := by unfold decL; rw [if_pos HI.out.1, HI.out.2]
  have e2 : decE 5 p = 0 := by unfold decE; rw [if_pos HI.out.1]
  rw [e1] at r3
  rw [e2]
  obtain rfl : n3 = n := r3.1.symm.trans hl.out
  have B3 := Lib.hid (B2.out.trans (hb.mono B2.out.size))
  have HL3 := Lib.hid (HL2.out.keep hb)
  have HK3 := Lib.hid (HK2.out.keep hb)
  have P3 := Lib.hid (P2.out.keep hb)
  have Q3 := Lib.hid (Q2.out.keep hb)
  have R3 := Lib.hid r3
  clear hb r3 e1 e2 B2 HL2 HK2 P2 Q2
  go_wp2_with fail
  refine (other_any 5 _ (by decide)).mono ?_
  rintro e w' ⟨rfl, rfl⟩
  generalize otherK 5 = ok at *
  go_wp2_with fail
  refine (decode_no _ 128 d1 ok p _ P3.out (by simp only [maxLen]; omega) hd1 HO.out).mono ?_
  rintro e w4 ⟨rfl, hb⟩
  have B4 := Lib.hid (B3.out.trans (hb.mono B3.out.size))
  have HL4 := Lib.hid (HL3.out.keep hb)
  have HK4 := Lib.hid (HK3.out.keep hb)
  have P4 := Lib.hid (P3.out.keep hb)
  have Q4 := Lib.hid (Q3.out.keep hb)
  have R4 := Lib.hid (R3.out.keep hb)
  clear hb B3 HL3 HK3 P3 Q3 R3
  go_wp2_with fail
  refine (eqwords_any _ _ n3 n3 c3 c _ _ _ R4.out HL4.out (by simp only [maxLen]; omega) (by simp only [maxLen]; omega)).mono ?_
  rintro e w5 ⟨rfl, hq⟩
  rw [show sameW l l = true from sameW_iff.2 rfl]
  have hb := hq.below
  have B5 := Lib.hid (B4.out.trans (hb.mono B4.out.size))
  have HL5 := Lib.hid (HL4.out.keep hb)
  have HK5 := Lib.hid (HK4.out.keep hb)
  have P5 := Lib.hid (P4.out.keep hb)
  have Q5 := Lib.hid (Q4.out.keep hb)
  clear hb hq B4 HL4 HK4 P4 Q4 R4
  go_wp2_with fail
  refine (awake_any _).mono ?_
  rintro e w' ⟨rfl, hb⟩
  have B7 := Lib.hid (B5.out.trans (hb.mono B5.out.size)); clear hb
  go_wp2_with fail
  go_ret
  exact ⟨rfl, B7.out⟩

set_option maxHeartbeats 2000000 in
set_option maxRecDepth 100000 in
theorem back_two5 (A : Option Addr) (n c : Nat) (B : Option Addr) (m d : Nat) (l k : List UInt16) (w : World) (h : ReadsW w A n l) (g : ReadsW w B m k) (hn : n ≤ 80) (hm : m ≤ 80) (hnl : n ≤ 61) (hml : m ≤ 61) :
    Calls Try.prog 4 #[.slice A n c, .slice B m d, .bool true] w fun e w' => e = .returned (.bool true) ∧ Below w.heap.size w w' := by
  have hl := Lib.hid h.1
  have hk := Lib.hid g.1
  have HL := Lib.hid h; clear h
  have HK := Lib.hid g; clear g
  have hE2 := encE_yes 5 k m hk.out (by decide) (by omega)
  have HE2 := Lib.hid hE2; clear hE2
  have hni : (n : Int) ≤ 61 := by omega
  have hmi : (m : Int) ≤ 61 := by omega
  have hid := idx_of_page 5 l (by decide) (by have := hl.out; omega)
  have hot := other_page 5 l (by decide) (by have := hl.out; omega)
  have hsm := page_same 5 l k (by decide) (by have := hl.out; omega) (by have := hk.out; omega)
  have HSM := Lib.hid hsm; clear hsm
  have hcl : encL 5 k = pageOf 5 (ibody k) := by unfold encL encOK; rw [if_pos (by simp [rightK]; have := hk.out; omega)]
  have hpl := pageOf_length 5 (ibody l) (by rw [ibody_length]; have := hl.out; omega)
  have HI := Lib.hid hid; clear hid
  have HO := Lib.hid hot; clear hot
  have HPL := Lib.hid hpl; clear hpl
  go_enter Try.func4, Try.ntmps4
  go_wp2_with fail
  refine (encode_right A n c 5 l _ HL.out (by decide) hnl).mono ?_
  rintro e w1 ⟨v, rfl, hF⟩
  obtain ⟨g1, d1, rfl, hg1, hd1, hdm1, hM1, hB⟩ := hF.open_ HPL.out
  have B1 := Lib.hid hB
  have HL1 := Lib.hid (HL.out.keep hB)
  have HK1 := Lib.hid (HK.out.keep hB)
  have P1 := Lib.hid hM1.reads
  clear hF hB hM1 HL HK
  go_wp2_with fail
  refine (encode_u B m d 5 k _ HK1.out (by simp only [maxLen]; omega)).mono ?_
  rintro e w2 ⟨A2, n2, c2, rfl, r2, hnc2, hb⟩
  have B2 := Lib.hid (B1.out.trans (hb.mono B1.out.size))
  have HL2 := Lib.hid (HL1.out.keep hb)
  have HK2 := Lib.hid (HK1.out.keep hb)
  have P2 := Lib.hid (P1.out.keep hb)
  rw [hcl] at r2
  have Q2 := Lib.hid r2
  clear hb r2 B1 HL1 HK1 P1 hcl
  rw [HE2.out]
  generalize pageOf 5 (ibody l) = p at *
  go_wp2_with fail
  refine (decode_u _ 128 d1 5 p _ P2.out (by simp only [maxLen]; omega) hd1).mono ?_
  rintro e w3 ⟨A3, n3, c3, rfl, r3, hnc3, hcm3, hb⟩
  have e1 : decL 5 p = l := by unfold decL; rw [if_pos HI.out.1, HI.out.2]
  have e2 : decE 5 p = 0 := by unfold decE; rw [if_pos HI.out.1]
  rw [e1] at r3
  rw [e2]
  obtain rfl : n3 = n := r3.1.symm.trans hl.out
  have B3 := Lib.hid (B2.out.trans (hb.mono B2.out.size))
  have HL3 := Lib.hid (HL2.out.keep hb)
  have HK3 := Lib.hid (HK2.out.keep hb)
  have P3 := Lib.hid (P2.out.keep hb)
  have Q3 := Lib.hid (Q2.out.keep hb)
  have R3 := Lib.hid r3
  clear hb r3 e1 e2 B2 HL2 HK2 P2 Q2
  go_wp2_with fail
  refine (other_any 5 _ (by decide)).mono ?_
  rintro e w' ⟨rfl, rfl⟩
  generalize otherK 5 = ok at *
  go_wp2_with fail
  refine (decode_no _ 128 d1 ok p _ P3.out (by simp only [maxLen]; omega) hd1 HO.out).mono ?_
  rintro e w4 ⟨rfl, hb⟩
  have B4 := Lib.hid (B3.out.trans (hb.mono B3.out.size))
  have HL4 := Lib.hid (HL3.out.keep hb)
  have HK4 := Lib.hid (HK3.out.keep hb)
  have P4 := Lib.hid (P3.out.keep hb)
  have Q4 := Lib.hid (Q3.out.keep hb)
  have R4 := Lib.hid (R3.out.keep hb)
  clear hb B3 HL3 HK3 P3 Q3 R3
  go_wp2_with fail
  refine (eqwords_any _ _ n3 n3 c3 c _ _ _ R4.out HL4.out (by simp only [maxLen]; omega) (by simp only [maxLen]; omega)).mono ?_
  rintro e w5 ⟨rfl, hq⟩
  rw [show sameW l l = true from sameW_iff.2 rfl]
  have hb := hq.below
  have B5 := Lib.hid (B4.out.trans (hb.mono B4.out.size))
  have HL5 := Lib.hid (HL4.out.keep hb)
  have HK5 := Lib.hid (HK4.out.keep hb)
  have P5 := Lib.hid (P4.out.keep hb)
  have Q5 := Lib.hid (Q4.out.keep hb)
  clear hb hq B4 HL4 HK4 P4 Q4 R4
  go_wp2_with fail
  refine (equal_any _ _ 128 n2 d1 c2 _ _ _ P5.out Q5.out).mono ?_
  rintro e w' ⟨rfl, rfl⟩
  rw [HSM.out]
  generalize hs : sameW l k = s at *
  have HS := Lib.hid hs; clear hs
  go_wp2_with fail
  refine (eqwords_any _ _ n3 m c d _ _ _ HL5.out HK5.out (by simp only [maxLen]; omega) (by simp only [maxLen]; omega)).mono ?_
  rintro e w6 ⟨rfl, hq⟩
  rw [HS.out]
  have hb := hq.below
  have B6 := Lib.hid (B5.out.trans (hb.mono B5.out.size))
  clear hb hq B5
  go_wp2_with fail
  refine (awake_any _).mono ?_
  rintro e w' ⟨rfl, hb⟩
  have B7 := Lib.hid (B6.out.trans (hb.mono B6.out.size)); clear hb
  go_wp2_with fail
  go_ret
  exact ⟨rfl, B7.out⟩

set_option maxHeartbeats 1000000 in
theorem back_out (A : Option Addr) (n c : Nat) (B : Option Addr) (m d : Nat) (b : Bool) (w : World) (hn1 : n ≤ maxLen) (hm1 : m ≤ maxLen) (h : 80 < n ∨ 80 < m) :
    Calls Try.prog 4 #[.slice A n c, .slice B m d, .bool b] w fun e w' => e = .returned (.bool true) ∧ Below w.heap.size w w' := by
  unfold maxLen at hn1 hm1
  have h1 : 80 < n ∨ (n ≤ 80 ∧ 80 < m) := by omega
  clear h
  rcases h1 with h | ⟨h, h2⟩
  all_goals
    go_enter Try.func4, Try.ntmps4
    go_wp2_with (go_at_call 9; refine (awake_any _).mono ?_; rintro e w' ⟨rfl, hb⟩)
    go_ret
    exact ⟨rfl, hb⟩

theorem lawBack (A : Option Addr) (n c : Nat) (B : Option Addr) (m d : Nat) (b : Bool) (l k : List UInt16) (w : World) (h : ReadsW w A n l) (hnc : n ≤ c) (hcm : c ≤ maxLen) (g : ReadsW w B m k) (hmd : m ≤ d) (hdm : d ≤ maxLen) :
    Calls Try.prog 4 #[.slice A n c, .slice B m d, .bool b] w fun e w' => e = .returned (.bool true) ∧ Below w.heap.size w w' := by
  by_cases h2 : 80 < n ∨ 80 < m
  · exact back_out A n c B m d b w (Nat.le_trans hnc hcm) (Nat.le_trans hmd hdm) h2
  · by_cases hn : n ≤ 61
    · by_cases hm : m ≤ 61
      · cases b
        · exact back_two4 A n c B m d l k w h g (by omega) (by omega) hn hm
        · exact back_two5 A n c B m d l k w h g (by omega) (by omega) hn hm
      · cases b
        · exact back_one4 A n c B m d l k w h g (by omega) (by omega) hn (by omega)
        · exact back_one5 A n c B m d l k w h g (by omega) (by omega) hn (by omega)
    · cases b
      · exact back_long4 A n c B m d l k w h g (by omega) (by omega) (by omega)
      · exact back_long5 A n c B m d l k w h g (by omega) (by omega) (by omega)

end Go.Proofs.Ytcfamackncbndaa
