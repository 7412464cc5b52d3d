/-
  IndexTells: the walk.
-/
import Derived.Test.YtcfamackncbndaaIdxI
namespace Go.Proofs.Ytcfamackncbndaa
open Go.RowKit
set_option linter.unusedVariables false

/-- What a slice of words that came in reads as. -/
theorem rdW_of_row {w : World} {a : Option Addr} {len cap : Nat} {zs : List Int}
    (h : (a = none ∧ len = 0 ∧ cap = 0 ∧ zs = []) ∨ ∃ x, a = some x ∧ len ≤ cap ∧ cap ≤ maxLen ∧ zs.length = cap ∧ (∀ i, i < zs.length → w.cell? (x.add i) = some (.int .u16 (zs.getD i 0))) ∧ ∀ n ∈ zs, (Lit.int .u16 n).wf = true) :
    ∃ l, ReadsW w a len l ∧ len ≤ cap ∧ cap ≤ maxLen := by
  rcases h with ⟨rfl, rfl, rfl, rfl⟩ | ⟨x, rfl, hl, hm, hz, hc, hw⟩
  · exact ⟨[], ReadsW.nil _ _, Nat.le_refl _, Nat.zero_le _⟩
  · refine ⟨(zs.take len).map (fun n => UInt16.ofNat n.toNat), ⟨by simp; omega, fun h0 => ?_⟩, hl, hm⟩
    obtain ⟨b, o, spot⟩ := x
    rw [wcells_length] at h0
    have hlen0 : 0 < len := by simp at h0; omega
    have h0' := hc 0 (by omega)
    have hspot : spot = none := by simpa [Addr.add] using World.cell?_spot h0'
    subst hspot
    refine ⟨b, o, rfl, ?_, fun j hj => ?_⟩
    · have := World.block_lt_of_cell? w _ h0'
      simpa [Addr.add] using this
    · have hj' : j < len := by rw [wcells_length] at hj; simp at hj; omega
      have h1 := hc j (by omega)
      rw [Addr.add_lit'] at h1
      rw [h1]
      have hmem : zs.getD j 0 ∈ zs := by
        rw [List.getD_eq_getElem?_getD, List.getElem?_eq_getElem (by omega)]
        exact List.getElem_mem _
      have hwf := hw _ hmem
      simp [Lit.wf, IntKind.min, IntKind.max, IntKind.signed, IntKind.bits] at hwf
      simp [wcells, List.getElem_map, List.getElem_take]
      rw [List.getElem?_eq_getElem (by omega)] at hwf ⊢
      simp at hwf ⊢
      omega

set_option maxHeartbeats 2000000 in
set_option maxRecDepth 100000 in
theorem tells_in (A : Option Addr) (n c : Nat) (B : Option Addr) (m d : Nat) (kind : UInt8) (N : Int) (l : List UInt16) (p : List UInt8) (w : World) (h : ReadsW w A n l) (g : Reads8 w B m p) (hmd : m ≤ d) (hdm : d ≤ maxLen)
    (hn : n ≤ 100) (hm : m ≤ 200) (hN : -9223372036854775808 ≤ N) (hN2 : N ≤ 100000) :
    Calls Try.prog 3 #[.int .u8 (kind.toNat : Int), .slice A n c, .slice B m d, .int .i64 N] w fun e w' => e = .returned (.bool true) ∧ Below w.heap.size w w' := by
  have hl := Lib.hid h.1
  have HR := Lib.hid h; clear h
  have HP := Lib.hid g; clear g
  go_enter Try.func3, Try.ntmps3
  go_wp2_with (at_builtin; refine wpList_appendC rfl _ _ 22 rfl w.heap.size 43 (.int .u16 0) 1 2 Try.underlying22 u16info rfl (by omega) _ 0 [] rfl (World.ownsRow_lit w #[] 0 (Nat.le_refl _) (Nat.zero_le _) rfl) A n c (wcells l) rfl (by rw [wcells_length, hl.out]; omega) (HR.out.2.keep ((Below.refl _ _).alloc (Nat.le_refl _) _)) (wcells_one _) (by simp only [maxLen]; omega) (by omega) (by simp) ?_)
  intro v w1 hown hgrow hnil hat
  have hb : Below w.heap.size w w1 := ((Below.refl _ _).alloc (Nat.le_refl _) _).grown hgrow (by simp) (by intro k hk; simp [Value.ownBlock] at hk; omega)
  obtain ⟨A1, c1, rfl, r1, _, _, _⟩ := own_readsW hown
  have R1 := Lib.hid r1
  have B1 := Lib.hid hb
  have HR1 := Lib.hid (HR.out.keep hb)
  have HP1 := Lib.hid (HP.out.keep hb)
  clear hown hgrow hnil hat hb r1 HR HP
  go_wp2_with fail
  refine (again_any B m d p _ HP1.out (by omega)).mono ?_
  rintro e w2 ⟨v, rfl, hF⟩
  obtain ⟨g2, d2, rfl, hg2, hd2, hdm2, hM2, hB⟩ := hF.open_ HP1.out.1
  have B2 := Lib.hid (B1.out.trans (hB.mono B1.out.size))
  have R2 := Lib.hid (R1.out.keep hB)
  have HR2 := Lib.hid (HR1.out.keep hB)
  have HP2 := Lib.hid (HP1.out.keep hB)
  have P2 := Lib.hid hM2.reads
  clear hF hB hM2 R1 B1 HR1 HP1 hg2
  go_wp2_with fail
  refine (encode_u A1 n c1 kind l _ R2.out (by simp only [maxLen]; omega)).mono ?_
  rintro e w3 ⟨A3, n3, c3, rfl, r3, hnc3, hb⟩
  have B3 := Lib.hid (B2.out.trans (hb.mono B2.out.size))
  have R3 := Lib.hid (R2.out.keep hb)
  have HR3 := Lib.hid (HR2.out.keep hb)
  have HP3 := Lib.hid (HP2.out.keep hb)
  have P3 := Lib.hid (P2.out.keep hb)
  have X3 := Lib.hid r3
  clear hb r3 B2 R2 HR2 HP2 P2
  go_wp2_with fail
  refine (rencode_u A n c kind l _ HR3.out (by simp only [maxLen]; omega)).mono ?_
  rintro e w4 ⟨A4, n4, c4, rfl, r4, hnc4, hb⟩
  have B4 := Lib.hid (B3.out.trans (hb.mono B3.out.size))
  have R4 := Lib.hid (R3.out.keep hb)
  have HR4 := Lib.hid (HR3.out.keep hb)
  have HP4 := Lib.hid (HP3.out.keep hb)
  have P4 := Lib.hid (P3.out.keep hb)
  have X4 := Lib.hid (X3.out.keep hb)
  have Y4 := Lib.hid r4
  clear hb r4 B3 R3 HR3 HP3 P3 X3
  go_wp2_with fail
  refine (decode_u _ m d2 kind p _ P4.out (by simp only [maxLen]; omega) hd2).mono ?_
  rintro e w5 ⟨A5, n5, c5, rfl, r5, hnc5, hcm5, hb⟩
  have B5 := Lib.hid (B4.out.trans (hb.mono B4.out.size))
  have R5 := Lib.hid (R4.out.keep hb)
  have HR5 := Lib.hid (HR4.out.keep hb)
  have HP5 := Lib.hid (HP4.out.keep hb)
  have P5 := Lib.hid (P4.out.keep hb)
  have X5 := Lib.hid (X4.out.keep hb)
  have Y5 := Lib.hid (Y4.out.keep hb)
  have Z5 := Lib.hid r5
  clear hb r5 B4 R4 HR4 HP4 P4 X4 Y4
  go_wp2_with fail
  refine (rdecode_u B m d kind p _ HP5.out (by simp only [maxLen]; omega) hmd).mono ?_
  rintro e w6 ⟨A6, n6, c6, rfl, r6, hnc6, hcm6, hb⟩
  have B6 := Lib.hid (B5.out.trans (hb.mono B5.out.size))
  have R6 := Lib.hid (R5.out.keep hb)
  have HR6 := Lib.hid (HR5.out.keep hb)
  have HP6 := Lib.hid (HP5.out.keep hb)
  have P6 := Lib.hid (P5.out.keep hb)
  have X6 := Lib.hid (X5.out.keep hb)
  have Y6 := Lib.hid (Y5.out.keep hb)
  have Z6 := Lib.hid (Z5.out.keep hb)
  have V6 := Lib.hid r6
  clear hb r6 B5 R5 HR5 HP5 P5 X5 Y5 Z5
  generalize encE kind l = E1 at *
  generalize decE kind p = E2 at *
  have L3 : n3 = n4 := X6.out.1.symm.trans Y6.out.1
  have L5 : n5 = n6 := Z6.out.1.symm.trans V6.out.1
  have HL3 := Lib.hid L3; clear L3
  have HL5 := Lib.hid L5; clear L5
  go_wp2_with fail
  refine (equal_any _ _ n3 n4 c3 c4 _ _ _ X6.out Y6.out).mono ?_
  rintro e w' ⟨rfl, rfl⟩
  rw [show same8 (encL kind l) (encL kind l) = true from same8_iff.2 rfl]
  go_wp2_with fail
  refine (eqwords_any _ _ n5 n6 c5 c6 _ _ _ Z6.out V6.out (by omega) (by omega)).mono ?_
  rintro e w7 ⟨rfl, hq⟩
  rw [show sameW (decL kind p) (decL kind p) = true from sameW_iff.2 rfl]
  have hb := hq.below
  have B7 := Lib.hid (B6.out.trans (hb.mono B6.out.size))
  have R7 := Lib.hid (R6.out.keep hb)
  have HR7 := Lib.hid (HR6.out.keep hb)
  have HP7 := Lib.hid (HP6.out.keep hb)
  have P7 := Lib.hid (P6.out.keep hb)
  clear hb hq B6 R6 HR6 HP6 P6 X6 Y6 Z6 V6
  go_wp2_with fail
  refine (eqwords_any _ _ n n c1 c _ _ _ R7.out HR7.out (by simp only [maxLen]; omega) (by simp only [maxLen]; omega)).mono ?_
  rintro e w8 ⟨rfl, hq⟩
  rw [show sameW l l = true from sameW_iff.2 rfl]
  have hb := hq.below
  have B8 := Lib.hid (B7.out.trans (hb.mono B7.out.size))
  have HP8 := Lib.hid (HP7.out.keep hb)
  have P8 := Lib.hid (P7.out.keep hb)
  clear hb hq B7 R7 HR7 HP7 P7
  go_wp2_with fail
  refine (equal_any _ _ m m d2 d _ _ _ P8.out HP8.out).mono ?_
  rintro e w' ⟨rfl, rfl⟩
  rw [show same8 p p = true from same8_iff.2 rfl]
  go_wp2_with fail
  refine (place_any N _ hN (by omega)).mono ?_
  rintro e w' ⟨rfl, rfl⟩
  go_wp2_with fail
  refine (rplace_any N _ hN (by omega)).mono ?_
  rintro e w' ⟨rfl, rfl⟩
  generalize placeP N = E3 at *
  generalize placeI N = E4 at *
  go_wp2_with fail
  refine (pages_any N _ hN (by omega)).mono ?_
  rintro e w' ⟨rfl, rfl⟩
  go_wp2_with fail
  refine (rpages_any N _ hN (by omega)).mono ?_
  rintro e w' ⟨rfl, rfl⟩
  generalize pagesOf N = E5 at *
  go_wp2_with fail
  refine (awake_any _).mono ?_
  rintro e w' ⟨rfl, hb⟩
  have B9 := Lib.hid (B8.out.trans (hb.mono B8.out.size)); clear hb
  go_wp2_with fail
  go_ret
  exact ⟨rfl, B9.out⟩

set_option maxHeartbeats 1000000 in
theorem tells_out (A : Option Addr) (n c : Nat) (B : Option Addr) (m d : Nat) (kind : UInt8) (N : Int) (w : World) (hn1 : n ≤ maxLen) (hm1 : m ≤ maxLen) (hN : -9223372036854775808 ≤ N) (hN9 : N ≤ 9223372036854775807) (h : 100 < n ∨ 200 < m ∨ 100000 < N) :
    Calls Try.prog 3 #[.int .u8 (kind.toNat : Int), .slice A n c, .slice B m d, .int .i64 N] w fun e w' => e = .returned (.bool true) ∧ Below w.heap.size w w' := by
  unfold maxLen at hn1 hm1
  have h1 : 100 < n ∨ (n ≤ 100 ∧ 200 < m) ∨ (n ≤ 100 ∧ m ≤ 200 ∧ 100000 < N) := by omega
  clear h
  rcases h1 with h | ⟨h, h2⟩ | ⟨h, h2, h3⟩
  all_goals
    go_enter Try.func3, Try.ntmps3
    go_wp2_with (go_at_call 9; refine (awake_any _).mono ?_; rintro e w' ⟨rfl, hb⟩)
    go_ret
    exact ⟨rfl, hb⟩

theorem lawTells (A : Option Addr) (n c : Nat) (B : Option Addr) (m d : Nat) (kind : Int) (N : Int) (l : List UInt16) (p : List UInt8) (w : World) (h : ReadsW w A n l) (hnc : n ≤ c) (hcm : c ≤ maxLen) (g : Reads8 w B m p) (hmd : m ≤ d) (hdm : d ≤ maxLen) (hk : (Lit.int .u8 kind).wf = true) (hN : (Lit.int .i64 N).wf = true) :
    Calls Try.prog 3 #[.int .u8 kind, .slice A n c, .slice B m d, .int .i64 N] w fun e w' => e = .returned (.bool true) ∧ Below w.heap.size w w' := by
  obtain ⟨u, rfl⟩ := u8_of hk
  have h1 := bounds_i64 hN
  by_cases h2 : 100 < n ∨ 200 < m ∨ 100000 < N
  · exact tells_out A n c B m d u N w (Nat.le_trans hnc hcm) (Nat.le_trans hmd hdm) h1.1 h1.2 h2
  · exact tells_in A n c B m d u N l p w h g hmd hdm (by omega) (by omega) h1.1 (by omega)

end Go.Proofs.Ytcfamackncbndaa
