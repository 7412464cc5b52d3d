/-
  index.right, index.Encode, catchmentref05.Encode, catchmentlow.EqualWords, places and pages of rows.
-/
import Derived.Test.YtcfamackncbndaaOcU
import Derived.Test.YtcfamackncbndaaCells
import Derived.Test.YtcfamackncbndaaIdxPlain
namespace Go.Proofs.Ytcfamackncbndaa
open Go.RowKit
set_option linter.unusedVariables false

/-- Words as cells. -/
def wcells (l : List UInt16) : List Value := l.map fun x => .int .u16 (x.toNat : Int)
theorem wcells_length (l : List UInt16) : (wcells l).length = l.length := by simp [wcells]
theorem wcells_append (l k : List UInt16) : wcells (l ++ k) = wcells l ++ wcells k := by simp [wcells]
theorem wcells_one (l : List UInt16) : ∀ u ∈ wcells l, u.oneCell' = true := by
  intro u hu
  obtain ⟨_, _, rfl⟩ := List.mem_map.1 hu
  rfl
theorem wcells_get {l : List UInt16} {j : Nat} (h : j < l.length) : (wcells l)[j]'(by rw [wcells_length]; exact h) = .int .u16 (l[j].toNat : Int) := by simp [wcells]

/-- A slice that reads as the words l. -/
def ReadsW (w : World) (A : Option Addr) (n : Nat) (l : List UInt16) : Prop := l.length = n ∧ Cells w A (wcells l)
theorem ReadsW.keep {w w' : World} {A : Option Addr} {n : Nat} {l : List UInt16} (h : ReadsW w A n l) (hb : Below w.heap.size w w') : ReadsW w' A n l := ⟨h.1, h.2.keep hb⟩
theorem ReadsW.nil (w : World) (A : Option Addr) : ReadsW w A 0 [] := ⟨rfl, Cells.nil _ _⟩
theorem ReadsW.get {w : World} {A : Option Addr} {n k : Nat} {l : List UInt16} (h : ReadsW w A n l) (hk : k < l.length) : ∃ b o, A = some ⟨b, o, none⟩ ∧ b < w.heap.size ∧ w.cell? ⟨b, o + k, none⟩ = some (.int .u16 (l[k].toNat : Int)) := by
  obtain ⟨b, o, e, hc⟩ := h.2 (by rw [wcells_length]; omega)
  refine ⟨b, o, e, hc.lt, ?_⟩
  rw [hc.cell k (by rw [wcells_length]; exact hk), wcells_get hk]

theorem right_any (kind : UInt8) (w : World) : Calls Try.prog 23 #[.int .u8 (kind.toNat : Int)] w fun e w' => e = .returned (.bool (rightK kind)) ∧ w = w' := by
  have k4 : ((kind.toNat : Int) == 4) = (kind == 4) := by
    rw [Bool.eq_iff_iff]; simp; constructor
    · intro h; apply UInt8.toNat_inj.1; show kind.toNat = 4; omega
    · intro h; rw [h]; rfl
  have k5 : ((kind.toNat : Int) == 5) = (kind == 5) := by
    rw [Bool.eq_iff_iff]; simp; constructor
    · intro h; apply UInt8.toNat_inj.1; show kind.toNat = 5; omega
    · intro h; rw [h]; rfl
  unfold rightK
  cases h4 : (kind == 4)
  · rw [h4] at k4
    cases h5 : (kind == 5)
    · rw [h5] at k5
      clear h4 h5
      go_enter Try.func23, Try.ntmps23
      go_wp2
      go_ret
      exact ⟨rfl, rfl⟩
    · rw [h5] at k5
      clear h4 h5
      go_enter Try.func23, Try.ntmps23
      go_wp2
      go_ret
      exact ⟨rfl, rfl⟩
  · rw [h4] at k4
    clear h4 k5
    go_enter Try.func23, Try.ntmps23
    go_wp2
    go_ret
    exact ⟨rfl, rfl⟩

theorem encode_wrong (A : Option Addr) (n c : Nat) (kind : UInt8) (w : World) (hn : n ≤ maxLen) (h : rightK kind = false ∨ 61 < n) :
    Calls Try.prog 11 #[.int .u8 (kind.toNat : Int), .slice A n c] w fun e w' => e = .returned (.tuple #[.slice none 0 0, .int .i64 50]) ∧ w = w' := by
  unfold maxLen at hn
  cases hr : rightK kind
  · clear h
    go_enter Try.func11, Try.ntmps11
    go_wp2_with fail
    refine (right_any kind _).mono ?_
    rintro e w' ⟨rfl, rfl⟩
    rw [hr]
    clear hr
    go_wp2_with fail
    go_ret2
    exact ⟨rfl, rfl⟩
  · have h1 : 61 < n := by
      rcases h with h | h
      · rw [h] at hr; cases hr
      · exact h
    clear h
    go_enter Try.func11, Try.ntmps11
    go_wp2_with fail
    refine (right_any kind _).mono ?_
    rintro e w' ⟨rfl, rfl⟩
    rw [hr]
    clear hr
    go_wp2_with fail
    go_ret2
    exact ⟨rfl, rfl⟩

set_option maxHeartbeats 1000000 in
set_option maxRecDepth 100000 in
theorem encode_right (A : Option Addr) (n c : Nat) (kind : UInt8) (l : List UInt16) (w : World) (h : ReadsW w A n l) (hr : rightK kind = true) (h61 : n ≤ 61) :
    Calls Try.prog 11 #[.int .u8 (kind.toNat : Int), .slice A n c] w fun e w' => ∃ v, e = .returned (.tuple #[v, .int .i64 0]) ∧ Fresh8 w w' v (pageOf kind (ibody l)) := by
  obtain ⟨i0, hi, hz0, hz1, hz2⟩ := info_parts u8info
  have hl := Lib.hid h.1
  have HR := Lib.hid h; clear h
  have HRK := Lib.hid hr; clear hr
  have HR0 := HR
  go_enter Try.func11, Try.ntmps11
  go_wp2_with fail
  refine (right_any kind _).mono ?_
  rintro e w' ⟨rfl, rfl⟩
  rw [HRK.out]
  go_wp2_with (at_make; refine wpList_make_full _ rfl _ _ 23 rfl w.heap.size 5 i0 (.int .u8 0) 1 Try.underlying23 hi hz0 hz1 .i64 .i64 (1 + 2 * (n : Int)) (1 + 2 * (n : Int)) (1 + 2 * n) rfl rfl (by omega) (by omega) (by rw [hz2]; omega) (by simp only [maxLen]; omega) (Nat.le_refl _) ?_)
  intro w1 hown hgrow
  have hb1 : Below w.heap.size w w1 := (Below.refl _ _).grown hgrow (Nat.le_refl _) (by intro k hk; cases hk)
  have hm := toList_made hown
  have HB := Lib.hid hb1
  have HM := Lib.hid hm
  have HR1 := Lib.hid (HR.out.keep hb1)
  clear hown hgrow hi hz0 hz1 hz2 i0 hb1 hm HR
  go_wp2_with fail
  refine (put_yes' w.heap.size 0 (1 + 2 * n) (1 + 2 * n) _ 0 1 n _ HM.out (by simp only [maxLen]; omega) (Nat.le_refl _) (by omega) (by omega) (by omega) (by omega)).mono ?_
  rintro e w2 ⟨rfl, hw2, hm2⟩
  have e0 : (List.replicate (1 + 2 * n) (0 : UInt8)).take 0 ++ be n 1 ++ (List.replicate (1 + 2 * n) (0 : UInt8)).drop (0 + 1) = ib l 0 := by
    have := ib_zero l
    rw [hl.out] at this
    exact this
  rw [e0] at hm2
  have HM2 := Lib.hid hm2
  have HB2 := Lib.hid (HB.out.trans (hw2.below (Nat.le_refl _)))
  have hA : 0 < (wcells l).length → ∀ a, A = some a → a.block ≠ w.heap.size := by
    intro h0 a ha
    rw [wcells_length] at h0
    obtain ⟨b, o, e, hlt, _⟩ := (ReadsW.get HR0.out h0)
    rw [ha] at e
    injection e with e
    subst e
    show b ≠ w.heap.size
    omega
  have HR2 : Hid (ReadsW w2 A n l) := Lib.hid ⟨HR1.out.1, hw2.farCs HR1.out.2 hA⟩
  have HA := Lib.hid hA
  clear hw2 hm2 e0 HM HB HR1 hA
  go_wp2_with fail
  go_loopw [28] (fun i wr => ∃ k : Nat, k ≤ n ∧ i = .int .i64 k ∧ Mem8 wr w.heap.size 0 (1 + 2 * n) (ib l k) ∧ ReadsW wr A n l ∧ Below w.heap.size w wr) (fun i _ => n - (intOf i).toNat)
  case atStart => exact ⟨0, Nat.zero_le _, rfl, HM2.out, HR2.out, HB2.out⟩
  case round =>
    clear HM2 HR2 HB2
    obtain ⟨k, hk, rfl, hm, hrd, hb⟩ := hrel
    have HM := Lib.hid hm; clear hm
    have HRD := Lib.hid hrd; clear hrd
    have HB := Lib.hid hb; clear hb
    by_cases hlt : k < n
    · obtain ⟨b, o, rfl, hbl, hc⟩ := HRD.out.get (k := k) (by have := hl.out; omega)
      have hx := UInt16.toNat_lt (l[k]'(by have := hl.out; omega))
      go_wp2_with fail
      have ea : (1 : Int) + 2 * (k : Int) = ((1 + 2 * k : Nat) : Int) := by omega
      rw [ea]
      refine (put_yes' w.heap.size 0 (1 + 2 * n) (1 + 2 * n) _ (1 + 2 * k) 2 _ _ HM.out (by simp only [maxLen]; omega) (Nat.le_refl _) (by omega) (by omega) (by omega) (by omega)).mono ?_
      rintro e w3 ⟨rfl, hw3, hm3⟩
      rw [ib_step l k (by have := hl.out; omega)] at hm3
      have HM3 := Lib.hid hm3
      have HB3 := Lib.hid (HB.out.trans (hw3.below (Nat.le_refl _)))
      have HRD3 : Hid (ReadsW w3 (some ⟨b, o, none⟩) n l) := Lib.hid ⟨HRD.out.1, hw3.farCs HRD.out.2 HA.out⟩
      clear hw3 hm3 ea hc
      go_wp2_with fail
      go_roundw
      case rel => exact ⟨k + 1, by omega, by go_num, HM3.out, HRD3.out, HB3.out⟩
      case measure => simp [intOf]; omega
    · obtain rfl : k = n := by omega
      have hib : ib l k = ibody l := by have := ib_all l; rwa [hl.out] at this
      rw [hib] at HM
      clear hib
      go_wp2_with fail
      refine (seal_any _ (1 + 2 * k) _ kind (ibody l) _ HM.out.reads (by omega)).mono ?_
      rintro e w3 ⟨v, rfl, hF⟩
      have HF := Lib.hid (hF.from HB.out)
      clear hF
      go_wp2_with fail
      go_ret2
      exact ⟨v, rfl, HF.out⟩

/-- Is it what a page of this kind may hold? -/
def encOK (kind : UInt8) (l : List UInt16) : Bool := rightK kind && decide (l.length ≤ 61)
def encL (kind : UInt8) (l : List UInt16) : List UInt8 := if encOK kind l = true then pageOf kind (ibody l) else []
def encE (kind : UInt8) (l : List UInt16) : Int := if encOK kind l = true then 0 else 50

theorem encode_u (A : Option Addr) (n c : Nat) (kind : UInt8) (l : List UInt16) (w : World) (h : ReadsW w A n l) (hn : n ≤ maxLen) :
    Calls Try.prog 11 #[.int .u8 (kind.toNat : Int), .slice A n c] w fun e w' => RetR w w' (fun v => .tuple #[v, .int .i64 (encE kind l)]) (encL kind l) e := by
  have hl := h.1
  unfold encL encE
  cases hok : encOK kind l
  · simp only [Bool.false_eq_true, if_false]
    have h2 : rightK kind = false ∨ 61 < n := by
      unfold encOK at hok
      rw [Bool.and_eq_false_iff] at hok
      rcases hok with h | h
      · exact .inl h
      · right; simp at h; omega
    exact (encode_wrong A n c kind w hn h2).mono fun e w' ⟨he, hw⟩ => by subst he; subst hw; exact ⟨_, _, _, rfl, Reads8.nil _ _, Nat.le_refl _, Below.refl _ _⟩
  · simp only [if_true]
    unfold encOK at hok
    simp only [Bool.and_eq_true, decide_eq_true_eq] at hok
    exact (encode_right A n c kind l w h hok.1 (by omega)).mono fun e w' ⟨v, he, hF⟩ => by subst he; exact hF.ret (fun v => .tuple #[v, .int .i64 0])

end Go.Proofs.Ytcfamackncbndaa
