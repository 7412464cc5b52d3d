/-
  catchmentref05.Decode.
-/
import Derived.Test.YtcfamackncbndaaIdxC
namespace Go.Proofs.Ytcfamackncbndaa
open Go.RowKit
set_option linter.unusedVariables false

/-- What comes back reads as the words l. -/
def RetW (w w' : World) (mk : Value → Value) (l : List UInt16) (e : Ending) : Prop := ∃ A n c, e = .returned (mk (.slice A n c)) ∧ ReadsW w' A n l ∧ n ≤ c ∧ c ≤ maxLen ∧ Below w.heap.size w w'

def decL (kind : UInt8) (p : List UInt8) : List UInt16 := if isIdx kind p = true then idxOf p else []
def decE (kind : UInt8) (p : List UInt8) : Int := if isIdx kind p = true then 0 else 50

theorem own_block {w : World} {base s n : Nat} {e : TypeId} {v : Value} {xs : List Value} (h : w.ownsRow base e s v n xs) {b : Nat} (hb : b < base) : some b ≠ v.ownBlock := by
  rcases h.2 with ⟨rfl, _⟩ | ⟨g, cap, cur, rfl, hg, _⟩
  · simp [Value.ownBlock]
  · intro e
    simp [Value.ownBlock] at e
    omega

/-- A slice that the call owns reads as its words. -/
theorem own_readsW {w : World} {base n : Nat} {e : TypeId} {v : Value} {l : List UInt16} (h : w.ownsRow base e 1 v n (wcells l)) : ∃ A c, v = .slice A n c ∧ ReadsW w A n l ∧ n ≤ c ∧ c ≤ maxLen ∧ ∀ k, v.ownBlock = some k → base ≤ k := by
  have hl : l.length = n := by have := h.1; rw [wcells_length] at this; omega
  rcases h.2 with ⟨rfl, h0⟩ | ⟨g, cap, cur, rfl, hg, hh, hn, hm, _⟩
  · have h0 : n = 0 := h0
    have : l = [] := List.eq_nil_of_length_eq_zero (by omega)
    subst this
    subst h0
    exact ⟨none, 0, rfl, ReadsW.nil _ _, Nat.le_refl _, by simp [maxLen], by simp [Value.ownBlock]⟩
  · exact ⟨_, cap, rfl, ⟨hl, (MemC.of_ownC h).1.cells⟩, hn, hm, by intro k hk; simp [Value.ownBlock] at hk; omega⟩

theorem num2 (B : List UInt8) (k : Nat) (h : 2 + 2 * k < B.length) : numAt B k = B[1 + 2 * k].toNat * 256 + B[2 + 2 * k].toNat := by
  unfold numAt
  have e : (B.drop (1 + 2 * k)).take 2 = [B[1 + 2 * k], B[2 + 2 * k]] := by
    rw [List.drop_eq_getElem_cons (by omega), List.take_succ_cons, List.drop_eq_getElem_cons (by omega), List.take_succ_cons, List.take_zero]
    simp only [show 1 + 2 * k + 1 = 2 + 2 * k by omega]
  rw [e]
  simp [num8, numFrom]

theorem isIdx_eq (kind : UInt8) (p : List UInt8) (hp : isPage p = true) (hm : manyOf p ≤ 61) : isIdx kind p = (rightK kind && decide (pageOf kind (ibody (idxOf p)) = p)) := by
  have hl : (idxOf p).length ≤ 61 := by unfold idxOf; rw [List.length_take]; omega
  rw [Bool.eq_iff_iff]
  simp only [Bool.and_eq_true, decide_eq_true_eq]
  constructor
  · intro h
    obtain ⟨h1, _, h3⟩ := idx_page kind p h
    exact ⟨h1, h3⟩
  · rintro ⟨h1, h2⟩
    have := (idx_of_page kind (idxOf p) h1 hl).1
    rwa [h2] at this

theorem u16info : (Try.prog.info? 43).map (fun i => (i.zero, i.size, i.bytes)) = some (some (.int .u16 0), 1, 2) := by kernel_rfl

theorem num3 (x y : UInt8) : [Value.int .u16 (IntKind.u16.wrap (IntKind.u16.wrap (IntKind.u16.wrap (x.toNat : Int) * 256) + IntKind.u16.wrap (y.toNat : Int)))] = wcells [UInt16.ofNat (x.toNat * 256 + y.toNat)] := by
  have hx := UInt8.toNat_lt x
  have hy := UInt8.toNat_lt y
  rw [IntWalk.u16_in (x.toNat : Int) (by omega), IntWalk.u16_in (y.toNat : Int) (by omega), IntWalk.u16_in ((x.toNat : Int) * 256) (by omega), IntWalk.u16_in _ (by omega)]
  simp [wcells]
  omega

theorem nums_take (b : List UInt8) (k : Nat) (h : k < 61) : (nums b).take (k + 1) = (nums b).take k ++ [UInt16.ofNat (numAt b k)] := by
  rw [List.take_succ_eq_append_getElem (by rw [nums_length]; exact h)]
  simp [nums]

set_option maxHeartbeats 1000000 in
set_option maxRecDepth 100000 in
theorem rdecode_page (A : Option Addr) (n c : Nat) (kind : UInt8) (p : List UInt8) (w : World) (h : Reads8 w A n p) (hn : n ≤ maxLen) (hnc : n ≤ c) (hp : isPage p = true) (hm : manyOf p ≤ 61) :
    Calls Try.prog 14 #[.int .u8 (kind.toNat : Int), .slice A n c] w fun e w' => RetW w w' (fun v => .tuple #[v, .int .i64 (decE kind p)]) (decL kind p) e := by
  have hl := Lib.hid h.1
  have HR := Lib.hid h; clear h
  have HP := Lib.hid hp; clear hp
  have hb123 : (bodyOf p).length = 123 := by
    have : p.length = 128 := by have h1 := HP.out; unfold isPage at h1; simp only [Bool.and_eq_true, decide_eq_true_eq] at h1; exact h1.1
    unfold bodyOf; simp; omega
  have HL := Lib.hid hb123; clear hb123
  go_enter Try.func14, Try.ntmps14
  go_wp2_with fail
  refine (ropen_yes A n c p _ HR.out hnc HP.out).mono ?_
  rintro e w1 ⟨v, rfl, hF⟩
  obtain ⟨g, d, rfl, hg, hd, hdm, hM, hB⟩ := hF.open_ HL.out
  replace hM : Mem8 w1 g 0 123 (bodyOf p) := hM
  have HM := Lib.hid hM
  have HB := Lib.hid hB
  have h0 : w1.cell? ⟨g, 0, none⟩ = some (.int .u8 (manyOf p : Int)) := by
    have := hM.cell 0 (by have := HL.out; omega)
    rw [Nat.add_zero] at this
    rw [this]
    unfold manyOf
    rw [List.headD_eq_head?_getD, List.head?_eq_getElem?, List.getElem?_eq_getElem (by have := HL.out; omega)]
    rfl
  clear hM hB hF
  generalize hmk : manyOf p = m at *
  have HMK := Lib.hid hmk; clear hmk
  have hg1 : g < w1.heap.size := HM.out.lt
  have hm2 : (m : Int) ≤ 61 := by omega
  go_wp2_with fail
  go_loopw [9, 10] (fun v i wr => ∃ k : Nat, k ≤ m ∧ i = .int .i64 k ∧ wr.ownsRow w1.heap.size 43 1 v k (wcells ((nums (bodyOf p)).take k)) ∧ Below w1.heap.size w1 wr) (fun _ i _ => m - (intOf i).toNat)
  case atStart => exact ⟨0, Nat.zero_le _, rfl, World.ownsRow_nil _ _ _ _, Below.refl _ _⟩
  case round =>
    obtain ⟨k, hk, rfl, hown, hb⟩ := hrel
    have HO := Lib.hid hown; clear hown
    have HB2 := Lib.hid hb; clear hb
    have h0r := (HB2.out.cell (p := ⟨g, 0, none⟩) hg1).trans h0
    clear h0
    by_cases hlt : k < m
    · have c1 := (HB2.out.cell (p := ⟨g, 0 + (1 + 2 * k), none⟩) hg1).trans (HM.out.cell (1 + 2 * k) (by have := HL.out; omega))
      have c2 := (HB2.out.cell (p := ⟨g, 0 + (2 + 2 * k), none⟩) hg1).trans (HM.out.cell (2 + 2 * k) (by have := HL.out; omega))
      rw [Nat.zero_add] at c1 c2
      obtain ⟨x, hx⟩ : ∃ x, x = (bodyOf p)[1 + 2 * k]'(by have := HL.out; omega) := ⟨_, rfl⟩
      obtain ⟨y, hy⟩ : ∃ y, y = (bodyOf p)[2 + 2 * k]'(by have := HL.out; omega) := ⟨_, rfl⟩
      rw [← hx] at c1
      rw [← hy] at c2
      have HX := Lib.hid hx; clear hx
      have HY := Lib.hid hy; clear hy
      have hx8 := UInt8.toNat_lt x
      have hy8 := UInt8.toNat_lt y
      have hgr : g < wr.heap.size := Nat.lt_of_lt_of_le hg1 HB2.out.size
      have i1 : (1 : Int) + 2 * (k : Int) < 123 := by omega
      have i2 : (2 : Int) + 2 * (k : Int) < 123 := by omega
      have i3 : (0 : Int) ≤ 1 + 2 * (k : Int) := by omega
      have i4 : (0 : Int) ≤ 2 + 2 * (k : Int) := by omega
      have k1 : IntKind.i64.wrap (2 * (k : Int)) = 2 * (k : Int) := IntWalk.i64_in _ (by omega)
      have k2 : IntKind.i64.wrap (1 + 2 * (k : Int)) = 1 + 2 * (k : Int) := IntWalk.i64_in _ (by omega)
      have k3 : IntKind.i64.wrap (2 + 2 * (k : Int)) = 2 + 2 * (k : Int) := IntWalk.i64_in _ (by omega)
      have t1 : ((1 : Int) + 2 * (k : Int)).toNat = 1 + 2 * k := by omega
      have t2 : ((2 : Int) + 2 * (k : Int)).toNat = 2 + 2 * k := by omega
      go_wp2_with fail
      go_region_held3 (fun w' => w'.cell? ⟨g, 1 + 2 * k, none⟩ = some (.int .u8 (x.toNat : Int)) ∧ w'.cell? ⟨g, 2 + 2 * k, none⟩ = some (.int .u8 (y.toNat : Int)) ∧ w'.cell? ⟨g, 0, none⟩ = some (.int .u8 (m : Int)))
        (first | (go_keep; done) | ((try dsimp only); refine ⟨?_, ?_, ?_⟩ <;> (first | (go_keep; done) | (rw [hgrow.cell_far _ (by simp; omega) (own_block HO.out hg1)]; first | assumption | (go_keep; done)))))
        ((refine step_appendC (by rfl) _ _ 22 (by rfl) w1.heap.size 43 (.int .u16 0) 1 2 Try.underlying22 u16info rfl (by omega) u9 k (wcells ((nums (bodyOf p)).take k)) (by rfl) ?_ (some ⟨wr.heap.size, 0, none⟩) 1 1 (wcells [UInt16.ofNat (x.toNat * 256 + y.toNat)]) (by rfl) (by rw [wcells_length]; rfl) ?_ (wcells_one _) (by simp only [maxLen]; omega) (by omega) ?_ ?_; exact own_drew (HO.out.alloc _); rw [← num3]; exact (MemC.new wr _ 43).drew.cells; exact (HB2.out.alloc HB2.out.size _).drew.size; intro v' w' hown hgrow hnil hat))
      have hb3 : Below w1.heap.size w1 w' := (HB2.out.alloc HB2.out.size _).drew.grown hgrow (HB2.out.alloc HB2.out.size _).drew.size (by
        intro q hq
        obtain ⟨_, _, _, _, _, _, ho⟩ := own_readsW HO.out
        have := ho q hq
        omega)
      have hown2 : w'.ownsRow w1.heap.size 43 1 v' (k + 1) (wcells ((nums (bodyOf p)).take (k + 1))) := by
        rw [nums_take _ k (by omega), wcells_append, num2 _ k (by have := HL.out; omega), ← HX.out, ← HY.out]
        exact hown
      have HO2 := Lib.hid hown2
      have HB3 := Lib.hid hb3
      have h0' := (hb3.cell (p := ⟨g, 0, none⟩) hg1).trans ((HB2.out.cell (p := ⟨g, 0, none⟩) hg1).symm.trans h0r)
      clear hown hown2 hgrow hnil hat hb3 HO HB2 c1 c2
      go_wp2_with fail
      go_roundw
      case rel => exact ⟨k + 1, by omega, by go_num, HO2.out, HB3.out⟩
      case measure => simp [intOf]; omega
    · obtain rfl : k = m := by omega
      have hL : (nums (bodyOf p)).take k = idxOf p := by unfold idxOf; rw [HMK.out]
      rw [hL] at HO
      clear hL
      obtain ⟨A', c', rfl, hrd, hcc, hcm, _⟩ := own_readsW HO.out
      have HRD := Lib.hid hrd; clear hrd
      have hlen : (idxOf p).length = k := HRD.out.1
      have hiq := isIdx_eq kind p HP.out (by rw [HMK.out]; omega)
      have HIQ := Lib.hid hiq; clear hiq
      have BW := Lib.hid (HB.out.trans (HB2.out.mono HB.out.size))
      cases hr : rightK kind
      · have HRK := Lib.hid hr; clear hr
        go_wp2_with fail
        refine (rencode_wrong A' k c' kind _ (by simp only [maxLen]; omega) (.inl HRK.out)).mono ?_
        rintro e w3 ⟨rfl, rfl⟩
        go_wp2_with fail
        go_ret2
        have h0 : isIdx kind p = false := by rw [HIQ.out, HRK.out]; rfl
        unfold decE decL
        rw [h0]
        exact ⟨_, _, _, rfl, ReadsW.nil _ _, Nat.le_refl _, by simp [maxLen], BW.out⟩
      · have HRK := Lib.hid hr; clear hr
        go_wp2_with fail
        refine (rencode_right A' k c' kind _ _ HRD.out HRK.out (by omega)).mono ?_
        rintro e w3 ⟨v, rfl, hF⟩
        obtain ⟨g3, d3, rfl, hg3, hd3, hdm3, hM3, hB3⟩ := hF.open_ (pageOf_length kind (ibody (idxOf p)) (by rw [ibody_length]; omega))
        have s1 := conv8 _ _ d3 _ _ hM3.reads
        have s2 := conv8 _ _ c _ _ (HR.out.keep (BW.out.trans (hB3.mono BW.out.size)))
        have HF3 := Lib.hid (BW.out.trans (hB3.mono BW.out.size))
        have HRD3 := Lib.hid (HRD.out.keep hB3)
        clear hM3 hB3 hF
        by_cases hq : pageOf kind (ibody (idxOf p)) = p
        · rw [hq] at s1
          have h0 : isIdx kind p = true := by rw [HIQ.out, HRK.out, decide_eq_true hq]; rfl
          have H0 := Lib.hid h0
          clear hq h0
          go_wp2_with fail
          go_ret2
          unfold decE decL
          rw [H0.out]
          exact ⟨_, _, _, rfl, HRD3.out, hcc, hcm, HF3.out⟩
        · have h0 : isIdx kind p = false := by rw [HIQ.out, HRK.out, decide_eq_false hq]; rfl
          have H0 := Lib.hid h0
          have hne : (pageOf kind (ibody (idxOf p)) == p) = false := by simpa using hq
          clear hq h0
          generalize pageOf kind (ibody (idxOf p)) = q at *
          go_wp2_with fail
          go_ret2
          unfold decE decL
          rw [H0.out]
          exact ⟨_, _, _, rfl, ReadsW.nil _ _, Nat.le_refl _, by simp [maxLen], HF3.out⟩

theorem rdecode_many (A : Option Addr) (n c : Nat) (kind : UInt8) (p : List UInt8) (w : World) (h : Reads8 w A n p) (hn : n ≤ maxLen) (hnc : n ≤ c) (hp : isPage p = true) (hm : 61 < manyOf p) :
    Calls Try.prog 14 #[.int .u8 (kind.toNat : Int), .slice A n c] w fun e w' => e = .returned (.tuple #[.slice none 0 0, .int .i64 50]) ∧ Below w.heap.size w w' := by
  have HR := Lib.hid h; clear h
  have HP := Lib.hid hp; clear hp
  have hb123 : (bodyOf p).length = 123 := by
    have : p.length = 128 := by have h1 := HP.out; unfold isPage at h1; simp only [Bool.and_eq_true, decide_eq_true_eq] at h1; exact h1.1
    unfold bodyOf; simp; omega
  have HL := Lib.hid hb123; clear hb123
  go_enter Try.func14, Try.ntmps14
  go_wp2_with fail
  refine (ropen_yes A n c p _ HR.out hnc HP.out).mono ?_
  rintro e w1 ⟨v, rfl, hF⟩
  obtain ⟨g, d, rfl, hg, hd, hdm, hM, hB⟩ := hF.open_ HL.out
  replace hM : Mem8 w1 g 0 123 (bodyOf p) := hM
  have HB := Lib.hid hB
  have h0 : w1.cell? ⟨g, 0, none⟩ = some (.int .u8 (manyOf p : Int)) := by
    have := hM.cell 0 (by have := HL.out; omega)
    rw [Nat.add_zero] at this
    rw [this]
    unfold manyOf
    rw [List.headD_eq_head?_getD, List.head?_eq_getElem?, List.getElem?_eq_getElem (by have := HL.out; omega)]
    rfl
  clear hM hB hF
  have hm3 : manyOf p ≤ 255 := by
    unfold manyOf
    have := UInt8.toNat_lt ((bodyOf p).headD 0)
    omega
  generalize hmk : manyOf p = m at *
  clear hmk
  have hm2 : 61 < (m : Int) := by omega
  go_wp2_with fail
  go_ret2
  exact ⟨rfl, HB.out⟩

theorem rdecode_none (A : Option Addr) (n c : Nat) (kind : UInt8) (p : List UInt8) (w : World) (h : Reads8 w A n p) (hn : n ≤ maxLen) (hnc : n ≤ c) (hp : isPage p = false) :
    Calls Try.prog 14 #[.int .u8 (kind.toNat : Int), .slice A n c] w fun e w' => e = .returned (.tuple #[.slice none 0 0, .int .i64 50]) ∧ Below w.heap.size w w' := by
  have HR := Lib.hid h; clear h
  have HP := Lib.hid hp; clear hp
  go_enter Try.func14, Try.ntmps14
  go_wp2_with fail
  refine (ropen_no A n c p _ HR.out hn hnc HP.out).mono ?_
  rintro e w1 ⟨rfl, q, rfl⟩
  go_wp2_with fail
  go_ret2
  exact ⟨rfl, bdn _ _⟩

theorem rdecode_u (A : Option Addr) (n c : Nat) (kind : UInt8) (p : List UInt8) (w : World) (h : Reads8 w A n p) (hn : n ≤ maxLen) (hnc : n ≤ c) :
    Calls Try.prog 14 #[.int .u8 (kind.toNat : Int), .slice A n c] w fun e w' => RetW w w' (fun v => .tuple #[v, .int .i64 (decE kind p)]) (decL kind p) e := by
  cases hp : isPage p
  · have h0 : isIdx kind p = false := by unfold isIdx; rw [hp]; rfl
    unfold decE decL
    rw [h0]
    exact (rdecode_none A n c kind p w h hn hnc hp).mono fun e w' ⟨he, hw⟩ => ⟨_, _, _, he, ReadsW.nil _ _, Nat.le_refl _, by simp [maxLen], hw⟩
  · by_cases hm : manyOf p ≤ 61
    · exact rdecode_page A n c kind p w h hn hnc hp hm
    · have h0 : isIdx kind p = false := by
        cases hi : isIdx kind p
        · rfl
        · unfold isIdx at hi
          simp only [Bool.and_eq_true, decide_eq_true_eq] at hi
          exact absurd hi.1.2 hm
      unfold decE decL
      rw [h0]
      exact (rdecode_many A n c kind p w h hn hnc hp (by omega)).mono fun e w' ⟨he, hw⟩ => ⟨_, _, _, he, ReadsW.nil _ _, Nat.le_refl _, by simp [maxLen], hw⟩

end Go.Proofs.Ytcfamackncbndaa
