/-
  catchmentref05.Encode.
-/
import Derived.Test.YtcfamackncbndaaIdxB
import Derived.Deep.RegionHeld3
namespace Go.Proofs.Ytcfamackncbndaa
open Go.RowKit
set_option linter.unusedVariables false

theorem be2 (x : UInt16) : [Value.int .u8 (IntKind.u8.wrap (IntKind.u16.wrap ((x.toNat : Int) / 256))), .int .u8 (IntKind.u8.wrap ((x.toNat : Int).tmod 256))] = bcells (be x.toNat 2) := by
  have h := UInt16.toNat_lt x
  have h1 : (x.toNat : Int).tmod 256 = (x.toNat : Int) % 256 := Int.tmod_eq_emod_of_nonneg (by omega)
  rw [IntWalk.u16_in _ (by omega), IntWalk.u8_in _ (by omega), h1, IntWalk.u8_in _ (by omega)]
  simp [bcells, be]
  omega

theorem own_drew {w : World} {b s n : Nat} {e : TypeId} {v : Value} {xs : List Value} (h : w.ownsRow b e s v n xs) : w.drew.ownsRow b e s v n xs := h

def rib (l : List UInt16) (k : Nat) : List UInt8 := UInt8.ofNat l.length :: flat (l.take k)
theorem rib_length (l : List UInt16) (k : Nat) (h : k ≤ l.length) : (rib l k).length = 1 + 2 * k := by
  simp [rib, flat_length]; omega
theorem rib_step (l : List UInt16) (k : Nat) (h : k < l.length) : rib l k ++ be l[k].toNat 2 = rib l (k + 1) := by
  unfold rib
  rw [List.take_succ_eq_append_getElem h, flat_append]
  simp [flat]
theorem rib_all (l : List UInt16) : rib l l.length = ibody l := by simp [rib, ibody]

set_option maxHeartbeats 1000000 in
set_option maxRecDepth 100000 in
theorem rencode_right (A : Option Addr) (n c : Nat) (kind : UInt8) (l : List UInt16) (w : World) (h : ReadsW w A n l) (hr : rightK kind = true) (h61 : n ≤ 61) :
    Calls Try.prog 12 #[.int .u8 (kind.toNat : Int), .slice A n c] w fun e w' => ∃ v, e = .returned (.tuple #[v, .int .i64 0]) ∧ Fresh8 w w' v (pageOf kind (ibody l)) := by
  have hl := Lib.hid h.1
  have HR := Lib.hid h; clear h
  have h1 : 4 ≤ (kind.toNat : Int) ∧ (kind.toNat : Int) ≤ 5 := by
    unfold rightK at hr
    simp only [Bool.or_eq_true, beq_iff_eq] at hr
    rcases hr with rfl | rfl <;> decide
  clear hr
  obtain ⟨k4, k5⟩ := h1
  have hu : ((n : Int) % 256) = (n : Int) := by omega
  go_enter Try.func12, Try.ntmps12
  go_wp2_with fail
  have hown : (w.alloc (.cells #[.int .u8 (n : Int)] 5)).ownsRow w.heap.size 5 1 (.slice (some ⟨w.heap.size, 0, none⟩) 1 1) 1 (bcells (rib l 0)) := by
    have := World.ownsRow_lit (e := 5) (size := 1) w #[.int .u8 (n : Int)] 1 (Nat.le_refl _) (by simp only [maxLen]; omega) rfl
    have e : bcells (rib l 0) = [.int .u8 (n : Int)] := by
      simp [bcells, rib, flat, hl.out]; omega
    rw [e]
    exact this
  have HO := Lib.hid hown
  have HB := Lib.hid ((Below.refl w.heap.size w).alloc (Nat.le_refl _) (.cells #[.int .u8 (n : Int)] 5))
  clear hown
  go_loopw [6, 7] (fun v i wr => ∃ k g d : Nat, k ≤ n ∧ i = .int .i64 k ∧ v = .slice (some ⟨g, 0, none⟩) (1 + 2 * k) d ∧ wr.ownsRow w.heap.size 5 1 (.slice (some ⟨g, 0, none⟩) (1 + 2 * k) d) (1 + 2 * k) (bcells (rib l k)) ∧ Below w.heap.size w wr) (fun _ i _ => n - (intOf i).toNat)
  case atStart => exact ⟨0, _, _, Nat.zero_le _, rfl, rfl, HO.out, HB.out⟩
  case round =>
    clear HO HB
    obtain ⟨k, g, d, hk, rfl, rfl, hown, hb⟩ := hrel
    have HO := Lib.hid hown; clear hown
    have HB := Lib.hid hb; clear hb
    by_cases hlt : k < n
    · obtain ⟨b, o, rfl, hbl, hc⟩ := (HR.out.keep HB.out).get (k := k) (by have := hl.out; omega)
      have hbw : b < w.heap.size := by
        obtain ⟨b', o', e, hlt', _⟩ := HR.out.get (k := k) (by have := hl.out; omega)
        injection e with e
        injection e with e1 e2
        omega
      obtain ⟨x, hx⟩ : ∃ x, x = l[k]'(by have := hl.out; omega) := ⟨_, rfl⟩
      rw [← hx] at hc
      have HX := Lib.hid hx; clear hx
      have hx := UInt16.toNat_lt x
      have hg : w.heap.size ≤ g ∧ 1 + 2 * k ≤ d ∧ g < wr.heap.size := by
        obtain ⟨g', cap, e, h1, h2, h3, h4⟩ := own_shape HO.out (by simp)
        injection e with e1 e2 e3
        injection e1 with e1
        injection e1 with e1
        omega
      obtain ⟨hg1, hg2, hg3⟩ := hg
      have hx1 : (0 : Int) ≤ (x.toNat : Int) := by omega
      have hx2 : (x.toNat : Int) < 65536 := by omega
      have hx3 : (x.toNat : Int) / 256 < 256 := by omega
      go_wp2_with fail
      go_region_held3 (fun w' => w'.cell? ⟨b, o + k, none⟩ = some (.int .u16 (x.toNat : Int)))
        (first | go_keep | (rw [hgrow.cell_far _ (by simp; omega) (by simp [Value.ownBlock]; omega)]; assumption))
        ((refine step_appendC (by rfl) _ _ 23 (by rfl) w.heap.size 5 (.int .u8 0) 1 1 Try.underlying23 u8info rfl (by omega) (.slice (some ⟨g, 0, none⟩) (1 + 2 * k) d) (1 + 2 * k) (bcells (rib l k)) (by rfl) ?_ (some ⟨wr.heap.size, 0, none⟩) 2 2 (bcells (be x.toNat 2)) (by rfl) (by rw [bcells_length, be_length]) ?_ (bcells_one _) (by simp only [maxLen]; omega) (by omega) ?_ ?_; exact own_drew (HO.out.alloc _); rw [← be2]; exact (MemC.new wr _ 5).drew.cells; exact (HB.out.alloc HB.out.size _).drew.size; intro v' w' hown hgrow hnil hat))
      have hb2 : Below w.heap.size w w' := (HB.out.alloc HB.out.size _).drew.grown hgrow (HB.out.alloc HB.out.size _).drew.size (by
        intro q hq
        simp [Value.ownBlock] at hq
        omega)
      have hne : v' ≠ .slice none 0 0 := by simpa using hnil
      have hown2 : w'.ownsRow w.heap.size 5 1 v' (1 + 2 * (k + 1)) (bcells (rib l (k + 1))) := by
        rw [← rib_step l k (by have := hl.out; omega), ← HX.out, bcells_append, show 1 + 2 * (k + 1) = 1 + 2 * k + 2 by omega]
        exact hown
      obtain ⟨g3, d3, rfl, _⟩ := own_shape hown2 hne
      have HO2 := Lib.hid hown2
      have HB2 := Lib.hid hb2
      clear hown hown2 hgrow hnil hat hne hb2 HO HB hc
      go_wp2_with fail
      go_roundw
      case rel => exact ⟨k + 1, g3, d3, by omega, by go_num, rfl, HO2.out, HB2.out⟩
      case measure => simp [intOf]; omega
    · obtain rfl : k = n := by omega
      have hib : rib l k = ibody l := by have := rib_all l; rwa [hl.out] at this
      have hm : Mem8 wr g 0 (1 + 2 * k) (ibody l) := by
        have h1 : (ibody l).length = 1 + 2 * k := by rw [ibody_length, hl.out]
        have := Mem8.of_own (w := wr) (l := ibody l) (by rw [h1, ← hib]; exact HO.out)
        rwa [h1] at this
      have HM := Lib.hid hm; clear hm hib
      go_wp2_with fail
      refine (rseal_any _ (1 + 2 * k) _ kind (ibody l) _ HM.out.reads (by omega)).mono ?_
      rintro e w3 ⟨v, rfl, hF⟩
      have HF := Lib.hid (hF.from HB.out)
      clear hF
      go_wp2_with fail
      go_ret2
      exact ⟨v, rfl, HF.out⟩

theorem rencode_u (A : Option Addr) (n c : Nat) (kind : UInt8) (l : List UInt16) (w : World) (h : ReadsW w A n l) (hn : n ≤ maxLen) :
    Calls Try.prog 12 #[.int .u8 (kind.toNat : Int), .slice A n c] w fun e w' => RetR w w' (fun v => .tuple #[v, .int .i64 (encE kind l)]) (encL kind l) e := by
  have hl := h.1
  unfold encL encE
  cases hok : encOK kind l
  · simp only [Bool.false_eq_true, if_false]
    have h2 : rightK kind = false ∨ 61 < n := by
      unfold encOK at hok
      rw [Bool.and_eq_false_iff] at hok
      rcases hok with h | h
      · exact .inl h
      · right; simp at h; omega
    exact (rencode_wrong A n c kind w hn h2).mono fun e w' ⟨he, hw⟩ => by subst he; subst hw; exact ⟨_, _, _, rfl, Reads8.nil _ _, Nat.le_refl _, Below.refl _ _⟩
  · simp only [if_true]
    unfold encOK at hok
    simp only [Bool.and_eq_true, decide_eq_true_eq] at hok
    exact (rencode_right A n c kind l w h hok.1 (by omega)).mono fun e w' ⟨v, he, hF⟩ => by subst he; exact hF.ret (fun v => .tuple #[v, .int .i64 0])

end Go.Proofs.Ytcfamackncbndaa
