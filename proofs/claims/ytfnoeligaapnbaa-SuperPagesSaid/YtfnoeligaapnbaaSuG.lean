/-
  super.Decode: the functions that set; the greatest byte.
-/
import Derived.Test.YtfnoeligaapnbaaSuF
namespace Go.Proofs.Ytfnoeligaapnbaa
open Go.RowKit Go.Shelf
set_option linter.unusedVariables false
set_option linter.unusedSimpArgs false
attribute [local go_sem] Oper.semAt_some

def supF (f : Nat → Nat) : Sup := ⟨UInt64.ofNat (f 0), UInt32.ofNat (f 1), (List.range 8).map fun i => UInt32.ofNat (f (2 + i)), (List.range 8).map fun i => UInt64.ofNat (f (10 + i)), by simp, by simp⟩
theorem supF_of (b : List UInt8) : supF (getF b) = supOf b := rfl
theorem fval_supF (f : Nat → Nat) (k : Nat) (h : k < 18) (hlt : f k < 256 ^ fsize k) : fval (supF f) k = f k := by
  unfold fval
  by_cases h0 : k = 0
  · subst h0
    rw [if_pos rfl]
    show (UInt64.ofNat (f 0)).toNat = _
    have : f 0 < 18446744073709551616 := hlt
    simp
    omega
  · rw [if_neg h0]
    by_cases h1 : k = 1
    · subst h1
      rw [if_pos rfl]
      show (UInt32.ofNat (f 1)).toNat = _
      have : f 1 < 4294967296 := hlt
      simp
      omega
    · rw [if_neg h1]
      by_cases h9 : k ≤ 9
      · rw [if_pos h9]
        have e : fsize k = 4 := by unfold fsize; rw [if_neg h0, if_pos h9]
        rw [e] at hlt
        show (((List.range 8).map fun i => UInt32.ofNat (f (2 + i))).getD (k - 2) 0).toNat = _
        rw [List.getD_eq_getElem?_getD, List.getElem?_map, List.getElem?_range (by omega)]
        show (UInt32.ofNat (f (2 + (k - 2)))).toNat = _
        rw [show 2 + (k - 2) = k by omega]
        have : f k < 4294967296 := hlt
        simp
        omega
      · rw [if_neg h9]
        have e : fsize k = 8 := by unfold fsize; rw [if_neg h0, if_neg h9]
        rw [e] at hlt
        show (((List.range 8).map fun i => UInt64.ofNat (f (10 + i))).getD (k - 10) 0).toNat = _
        rw [List.getD_eq_getElem?_getD, List.getElem?_map, List.getElem?_range (by omega)]
        show (UInt64.ofNat (f (10 + (k - 10)))).toNat = _
        rw [show 10 + (k - 10) = k by omega]
        have : f k < 18446744073709551616 := hlt
        simp
        omega
def fkind (k : Nat) : IntKind := if fsize k = 4 then .u32 else .u64
def cellv (k n : Nat) : Value := .int (fkind k) (n : Int)
theorem scells_at (s : Sup) (k : Nat) (h : k < 18) : (scells s)[k]? = some (cellv k (fval s k)) := by
  unfold cellv fkind fsize
  by_cases h0 : k = 0
  · subst h0; exact scells_gen s
  · by_cases h1 : k = 1
    · subst h1; exact scells_blocks s
    · by_cases h9 : k ≤ 9
      · rw [if_neg h0, if_pos h9, if_pos rfl]
        have := scells_root s (k - 2) (by omega)
        rwa [show 2 + (k - 2) = k by omega] at this
      · rw [if_neg h0, if_neg h9, if_neg (by decide)]
        have := scells_mark s (k - 10) (by omega)
        rwa [show 10 + (k - 10) = k by omega] at this
/-- The first k numbers of a body, and noughts. -/
def supK (b : List UInt8) (k : Nat) : Sup := supF fun j => if j < k then getF b j else 0
theorem fval_supK (b : List UInt8) (k j : Nat) (h : j < 18) : fval (supK b k) j = if j < k then getF b j else 0 := by
  refine fval_supF _ j h ?_
  split
  · exact getF_lt b j
  · exact Nat.pow_pos (by decide)
theorem supK_all (b : List UInt8) : supK b 18 = supOf b := sup_ext fun k hk => by rw [fval_supK b 18 k hk, if_pos hk, fval_supOf b k hk]
theorem supK_zero (b : List UInt8) : supK b 0 = supF fun _ => 0 := by unfold supK; simp
theorem supK_step (b : List UInt8) (k : Nat) (h : k < 18) : scells (supK b (k + 1)) = (scells (supK b k)).set k (cellv k (getF b k)) := by
  apply List.ext_getElem?
  intro j
  by_cases hj : j < 18
  · rw [scells_at _ j hj, fval_supK _ _ _ hj, List.getElem?_set]
    by_cases e : k = j
    · subst e
      rw [if_pos rfl, if_pos (by omega), scells_length, if_pos h]
    · rw [if_neg e, scells_at _ j hj, fval_supK _ _ _ hj]
      by_cases h1 : j < k
      · rw [if_pos (by omega), if_pos h1]
      · rw [if_neg (by omega), if_neg h1]
  · rw [List.getElem?_eq_none (by rw [scells_length]; omega), List.getElem?_eq_none (by rw [List.length_set, scells_length]; omega)]

set_option maxRecDepth 100000 in
set_option maxHeartbeats 1000000 in
theorem set_any (W : World) (B Bs Bq k n : Nat) (f : Fn) (caps : Array Value) (xs : List Value) (hk : k < 18) (hg : GoodSet B Bs k (.func f #[] caps) W) (hB : W.cell? ⟨Bs, 0, none⟩ = some (ptr Bq)) (hM : MemC W Bq 0 xs) (hx : xs.length = 18) (hn : n < 256 ^ fsize k) :
    ∃ g, f = .func g ∧ (∀ args w, (callFunc g args).run Try.prog w = .ok (.enter g args) w) ∧ Calls Try.prog g (#[.int .u64 (n : Int)] ++ caps) W fun e W' => (∃ v, e = .returned v) ∧ ∃ q, W' = (W.drewN q).setCell ⟨Bq, k, none⟩ (cellv k n) := by
  obtain ⟨g0, z0⟩ := hM.gets k xs[k] (List.getElem?_eq_getElem (by omega))
  have hs : (W.cell? ⟨Bq, k, none⟩).isSome = true := by rw [g0]; rfl
  unfold ptr at hB
  rcases hg with ⟨rfl, h⟩ | ⟨rfl, h⟩ | ⟨i, ib, rfl, hi, h2, h, h3⟩ | ⟨i, ib, rfl, hi, h2, h, h3⟩
  · injection h with e1 e2 e3
    subst e1 e3
    have hc : cellv 0 n = .int .u64 (n : Int) := rfl
    refine ⟨_, rfl, enters_of Try.func40 (by kernel_rfl) rfl, ?_⟩
    rw [hc]
    unfold ptr
    go_enter Try.func40, Try.ntmps40
    go_wp2
    go_end0
    exact ⟨⟨_, rfl⟩, 0, rfl⟩
  · injection h with e1 e2 e3
    subst e1 e3
    have hn2 : n < 4294967296 := hn
    have hw : IntKind.u32.wrap (n : Int) = (n : Int) := IntWalk.u32_in _ (by omega)
    have hc : cellv 1 n = .int .u32 (n : Int) := rfl
    refine ⟨_, rfl, enters_of Try.func41 (by kernel_rfl) rfl, ?_⟩
    rw [hc]
    unfold ptr
    go_enter Try.func41, Try.ntmps41
    go_wp2
    go_end0
    exact ⟨⟨_, rfl⟩, 0, rfl⟩
  · injection h with e1 e2 e3
    subst e1 e3
    have hf : fsize (2 + i) = 4 := by unfold fsize; rw [if_neg (by omega), if_pos (by omega)]
    rw [hf] at hn
    have hn2 : n < 4294967296 := hn
    have hw : IntKind.u32.wrap (n : Int) = (n : Int) := IntWalk.u32_in _ (by omega)
    have hc : cellv (2 + i) n = .int .u32 (n : Int) := by unfold cellv fkind; rw [hf]; rfl
    refine ⟨_, rfl, enters_of Try.func42 (by kernel_rfl) rfl, ?_⟩
    rw [hc]
    unfold ptr
    clear hn hf hc
    have i0 : (0 : Int) ≤ (i : Int) := by omega
    have i8 : (i : Int) < 8 := by omega
    go_enter Try.func42, Try.ntmps42
    go_region
    go_end0
    exact ⟨⟨_, rfl⟩, 1, rfl⟩
  · injection h with e1 e2 e3
    subst e1 e3
    have hf : fsize (10 + i) = 8 := by unfold fsize; rw [if_neg (by omega), if_neg (by omega)]
    have hc : cellv (10 + i) n = .int .u64 (n : Int) := by unfold cellv fkind; rw [hf]; rfl
    refine ⟨_, rfl, enters_of Try.func43 (by kernel_rfl) rfl, ?_⟩
    rw [hc]
    unfold ptr
    clear hn hf hc
    have i0 : (0 : Int) ≤ (i : Int) := by omega
    have i8 : (i : Int) < 8 := by omega
    go_enter Try.func43, Try.ntmps43
    go_region
    go_end0
    exact ⟨⟨_, rfl⟩, 1, rfl⟩

theorem top_bit (x : UInt8) : decide (0 < x.toNat) = !(x == 0) := by
  by_cases h : x = 0
  · subst h; rfl
  · have h0 : x.toNat ≠ 0 := fun e => h (UInt8.toNat_inj.1 (by simpa using e))
    rw [decide_eq_true (by omega), beq_eq_false_iff_ne.2 h]
    rfl

/-- The greatest of some bytes: nought just if all are. -/
def tops (l : List UInt8) : Nat := l.foldl (fun m x => max m x.toNat) 0

set_option maxHeartbeats 1000000 in
theorem max_any (b o n c : Nat) (l : List UInt8) (w : World) (h : Reads8 w (some ⟨b, o, none⟩) n l) (hn : 0 < n) (hm : n ≤ maxLen) :
    Calls Try.prog 30 #[.slice (some ⟨b, o, none⟩) n c] w fun e w' => (∃ m : Nat, e = .returned (.int .u8 (m : Int)) ∧ decide (0 < m) = !(l.all (· == 0))) ∧ w = w' := by
  have hl := h.1
  have hc : ∀ j (hj : j < n), w.cell? ⟨b, o + j, none⟩ = some (.int .u8 ((l[j]'(by omega)).toNat : Int)) := by
    obtain ⟨b', o', e, _, hc⟩ := h.2 hn
    injection e with e
    injection e with e1 e2
    subst e1 e2
    exact fun j hj => hc j (by omega)
  have HC := Lib.hid hc; clear hc h
  have HL := Lib.hid hl
  have c0 := HC.out 0 hn
  rw [Nat.add_zero] at c0
  unfold maxLen at hm
  have h1 : ¬ (n : Int) < 1 := by omega
  go_enter Try.func30, Try.ntmps30
  go_wp2_with fail
  go_loopw [3, 4] (fun v i wr => ∃ k m : Nat, 1 ≤ k ∧ k ≤ n ∧ m < 256 ∧ v = .int .u8 (m : Int) ∧ i = .int .i64 (k : Int) ∧ decide (0 < m) = !((l.take k).all (· == 0)) ∧ wr = w) (fun _ i _ => n - (intOf i).toNat)
  case atStart =>
    refine ⟨1, _, Nat.le_refl _, hn, UInt8.toNat_lt _, rfl, rfl, ?_, rfl⟩
    have hl := HL.out
    obtain ⟨x, r, rfl⟩ : ∃ x r, l = x :: r := by cases l with | nil => simp at hl; omega | cons x r => exact ⟨x, r, rfl⟩
    simp [top_bit]
  case round =>
    obtain ⟨k, m, hk1, hk, hm8, rfl, rfl, hmm, rfl⟩ := hrel
    have HMM := Lib.hid hmm; clear hmm
    have HM8 := Lib.hid hm8; clear hm8
    by_cases hlt : k < n
    · have c1 := HC.out k hlt
      obtain ⟨x, hx⟩ : ∃ x, x = l[k]'(by have := HL.out; omega) := ⟨_, rfl⟩
      rw [← hx] at c1
      have HT : Hid (l.take (k + 1) = l.take k ++ [x]) := Lib.hid (by rw [hx]; exact List.take_succ_eq_append_getElem _)
      clear hx c0
      go_wp2_with fail
      go_roundw
      case rel =>
        have hx8 := UInt8.toNat_lt x
        refine ⟨k + 1, if m < x.toNat then x.toNat else m, by omega, by omega, ?_, ?_, by go_num, ?_, trivial⟩
        · have := HM8.out
          split <;> omega
        · split <;> rfl
        · rw [HT.out, List.all_append, Bool.not_and, ← HMM.out]
          simp only [List.all_cons, List.all_nil, Bool.and_true]
          rw [← top_bit x]
          split
          · rename_i hh
            by_cases h0 : 0 < m <;> simp [h0] <;> omega
          · rename_i hh
            by_cases h0 : 0 < m <;> simp [h0] <;> omega
      case measure => simp [intOf]; omega
    · have hkn : n = k := by omega
      subst hkn
      clear c0
      go_wp2_with fail
      go_ret
      refine ⟨⟨m, rfl, ?_⟩, rfl⟩
      rw [HMM.out, List.take_of_length_le (by rw [HL.out]; exact Nat.le_refl _)]

end Go.Proofs.Ytfnoeligaapnbaa
