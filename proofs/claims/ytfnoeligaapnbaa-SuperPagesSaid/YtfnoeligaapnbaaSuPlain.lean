/-
  Supers: which are right; their bodies; what is read of bodies. No Go in sight.
-/
import Derived.Test.YtfnoeligaapnbaaPageB
namespace Go.Proofs.Ytfnoeligaapnbaa
set_option linter.unusedVariables false

structure Sup where
  gen : UInt64
  blocks : UInt32
  roots : List UInt32
  marks : List UInt64
  hr : roots.length = 8
  hm : marks.length = 8

theorem sup_eq {s t : Sup} (h1 : s.gen = t.gen) (h2 : s.blocks = t.blocks) (h3 : s.roots = t.roots) (h4 : s.marks = t.marks) : s = t := by
  obtain ⟨g, b, r, m, hr, hm⟩ := s
  obtain ⟨g', b', r', m', hr', hm'⟩ := t
  dsimp only at h1 h2 h3 h4
  subst h1 h2 h3 h4
  rfl

/-- The k-th number of a super: of how many bytes, where it stands, what it is. -/
def fsize (k : Nat) : Nat := if k = 0 then 8 else if k ≤ 9 then 4 else 8
def foff (k : Nat) : Nat := if k = 0 then 0 else if k ≤ 9 then 8 + 4 * (k - 1) else 44 + 8 * (k - 10)
def fval (s : Sup) (k : Nat) : Nat := if k = 0 then s.gen.toNat else if k = 1 then s.blocks.toNat else if k ≤ 9 then (s.roots.getD (k - 2) 0).toNat else (s.marks.getD (k - 10) 0).toNat
theorem foff_succ (k : Nat) : foff (k + 1) = foff k + fsize k := by
  unfold foff fsize
  by_cases h : k = 0
  · subst h; rfl
  · by_cases h9 : k ≤ 9
    · by_cases h8 : k + 1 ≤ 9
      · rw [if_neg (by omega), if_pos h8, if_neg h, if_pos h9, if_neg h, if_pos h9]; omega
      · rw [if_neg (by omega), if_neg h8, if_neg h, if_pos h9, if_neg h, if_pos h9]; omega
    · rw [if_neg (by omega), if_neg (by omega), if_neg h, if_neg h9, if_neg h, if_neg h9]; omega
theorem foff_mono {k m : Nat} (h : k ≤ m) : foff k ≤ foff m := by
  induction m with
  | zero => rw [show k = 0 by omega]; exact Nat.le_refl _
  | succ m ih =>
    by_cases e : k = m + 1
    · rw [e]; exact Nat.le_refl _
    · rw [foff_succ]
      have := ih (by omega)
      omega
theorem foff_end : foff 18 = 108 := rfl
theorem fsize_le (k : Nat) : 1 ≤ fsize k ∧ fsize k ≤ 8 := by
  unfold fsize
  split
  · omega
  · split <;> omega
theorem fval_lt (s : Sup) (k : Nat) : fval s k < 256 ^ fsize k := by
  unfold fval fsize
  by_cases h : k = 0
  · rw [if_pos h, if_pos h]; exact UInt64.toNat_lt _
  · rw [if_neg h, if_neg h]
    by_cases h1 : k = 1
    · rw [if_pos h1, if_pos (by omega)]; exact UInt32.toNat_lt _
    · rw [if_neg h1]
      by_cases h9 : k ≤ 9
      · rw [if_pos h9, if_pos h9]; exact UInt32.toNat_lt _
      · rw [if_neg h9, if_neg h9]; exact UInt64.toNat_lt _

/-- The first k numbers' bytes. -/
def flatS (s : Sup) (k : Nat) : List UInt8 := (List.range k).flatMap fun i => be (fval s i) (fsize i)
theorem flatS_succ (s : Sup) (k : Nat) : flatS s (k + 1) = flatS s k ++ be (fval s k) (fsize k) := by simp [flatS, List.range_succ]
theorem flatS_length (s : Sup) (k : Nat) : (flatS s k).length = foff k := by
  induction k with
  | zero => rfl
  | succ k ih => rw [flatS_succ, List.length_append, ih, be_length, foff_succ]
/-- A body of which k numbers are written. -/
def sb (s : Sup) (k : Nat) : List UInt8 := flatS s k ++ List.replicate (123 - foff k) 0
def sbody (s : Sup) : List UInt8 := flatS s 18 ++ (List.replicate 7 0 ++ be s.gen.toNat 8)
theorem sb_zero (s : Sup) : sb s 0 = List.replicate 123 0 := rfl
theorem sb_length (s : Sup) (k : Nat) (h : k ≤ 18) : (sb s k).length = 123 := by
  have := foff_mono h
  rw [foff_end] at this
  rw [sb, List.length_append, flatS_length, List.length_replicate]
  omega
theorem sbody_length (s : Sup) : (sbody s).length = 123 := by
  rw [sbody, List.length_append, flatS_length, List.length_append, List.length_replicate, be_length]
  rfl
theorem sb_step (s : Sup) (k : Nat) (h : k < 18) : (sb s k).take (foff k) ++ be (fval s k) (fsize k) ++ (sb s k).drop (foff k + fsize k) = sb s (k + 1) := by
  have h1 := flatS_length s k
  have e1 : (sb s k).take (foff k) = flatS s k := by
    rw [sb, ← h1, List.take_left]
  have e2 : (sb s k).drop (foff k + fsize k) = List.replicate (123 - foff (k + 1)) 0 := by
    rw [sb, ← h1, List.drop_length_add_append, List.drop_replicate, foff_succ, ← h1]
    congr 1
    omega
  rw [e1, e2, sb, flatS_succ, List.append_assoc]
theorem sb_last (s : Sup) : (sb s 18).take 115 ++ be s.gen.toNat 8 ++ (sb s 18).drop (115 + 8) = sbody s := by
  have h1 := flatS_length s 18
  have e : sb s 18 = (flatS s 18 ++ List.replicate 7 0) ++ List.replicate 8 0 := by rw [sb, foff_end, List.append_assoc]; rfl
  have e0 : (flatS s 18 ++ List.replicate 7 (0 : UInt8)).length = 115 := by rw [List.length_append, h1]; rfl
  rw [e]
  rw [List.take_append_of_le_length (by omega), List.take_of_length_le (by omega)]
  rw [List.drop_eq_nil_of_le (by rw [List.length_append, e0]; decide), List.append_nil, sbody, List.append_assoc]

/-- The number that stands at a place of a body. -/
def pieceS (b : List UInt8) (k : Nat) : List UInt8 := (b.drop (foff k)).take (fsize k)
def getF (b : List UInt8) (k : Nat) : Nat := num8 (pieceS b k)
theorem getF_lt (b : List UInt8) (k : Nat) : getF b k < 256 ^ fsize k := num8_lt_of (by simp [pieceS]; omega)
theorem pieceS_body (s : Sup) (k : Nat) (h : k < 18) : pieceS (sbody s) k = be (fval s k) (fsize k) := by
  have hsplit : ∀ m, k < m → ∃ r, flatS s m = flatS s k ++ (be (fval s k) (fsize k) ++ r) := by
    intro m hm
    induction m with
    | zero => omega
    | succ m ih =>
      by_cases e : k = m
      · subst e
        exact ⟨[], by rw [flatS_succ, List.append_nil]⟩
      · obtain ⟨r, hr⟩ := ih (by omega)
        exact ⟨r ++ be (fval s m) (fsize m), by rw [flatS_succ, hr]; simp⟩
  obtain ⟨r, hr⟩ := hsplit 18 h
  unfold pieceS sbody
  rw [hr, List.append_assoc, List.append_assoc, ← flatS_length s k, List.drop_left]
  have hl : (be (fval s k) (fsize k)).length = fsize k := be_length _ _
  generalize be (fval s k) (fsize k) = x at *
  rw [← hl, List.take_left]
theorem getF_body (s : Sup) (k : Nat) (h : k < 18) : getF (sbody s) k = fval s k := by
  rw [getF, pieceS_body s k h, num8_be, Nat.mod_eq_of_lt (fval_lt s k)]

def supOf (b : List UInt8) : Sup := ⟨UInt64.ofNat (getF b 0), UInt32.ofNat (getF b 1), (List.range 8).map fun i => UInt32.ofNat (getF b (2 + i)), (List.range 8).map fun i => UInt64.ofNat (getF b (10 + i)), by simp, by simp⟩
theorem fval_supOf (b : List UInt8) (k : Nat) (h : k < 18) : fval (supOf b) k = getF b k := by
  have hlt := getF_lt b k
  unfold fval
  by_cases h0 : k = 0
  · subst h0
    rw [if_pos rfl]
    show (UInt64.ofNat (getF b 0)).toNat = _
    have : getF b 0 < 18446744073709551616 := hlt
    simp
    omega
  · rw [if_neg h0]
    by_cases h1 : k = 1
    · subst h1
      rw [if_pos rfl]
      show (UInt32.ofNat (getF b 1)).toNat = _
      have : getF b 1 < 4294967296 := hlt
      simp
      omega
    · rw [if_neg h1]
      by_cases h9 : k ≤ 9
      · rw [if_pos h9]
        have e : fsize k = 4 := by unfold fsize; rw [if_neg h0, if_pos h9]
        rw [e] at hlt
        show (((List.range 8).map fun i => UInt32.ofNat (getF b (2 + i))).getD (k - 2) 0).toNat = _
        rw [List.getD_eq_getElem?_getD, List.getElem?_map, List.getElem?_range (by omega)]
        show (UInt32.ofNat (getF b (2 + (k - 2)))).toNat = _
        rw [show 2 + (k - 2) = k by omega]
        have : getF b k < 4294967296 := hlt
        simp
        omega
      · rw [if_neg h9]
        have e : fsize k = 8 := by unfold fsize; rw [if_neg h0, if_neg h9]
        rw [e] at hlt
        show (((List.range 8).map fun i => UInt64.ofNat (getF b (10 + i))).getD (k - 10) 0).toNat = _
        rw [List.getD_eq_getElem?_getD, List.getElem?_map, List.getElem?_range (by omega)]
        show (UInt64.ofNat (getF b (10 + (k - 10)))).toNat = _
        rw [show 10 + (k - 10) = k by omega]
        have : getF b k < 18446744073709551616 := hlt
        simp
        omega
/-- A super is what its numbers are. -/
theorem sup_ext {s t : Sup} (h : ∀ k, k < 18 → fval s k = fval t k) : s = t := by
  refine sup_eq (UInt64.toNat_inj.1 (h 0 (by omega))) (UInt32.toNat_inj.1 (h 1 (by omega))) (List.ext_getElem (by rw [s.hr, t.hr]) fun i h1 h2 => ?_) (List.ext_getElem (by rw [s.hm, t.hm]) fun i h1 h2 => ?_)
  · have h8 := s.hr
    have := h (i + 2) (by omega)
    unfold fval at this
    rw [if_neg (by omega), if_neg (by omega), if_pos (by omega), if_neg (by omega), if_neg (by omega), if_pos (by omega), Nat.add_sub_cancel] at this
    rw [List.getD_eq_getElem?_getD, List.getD_eq_getElem?_getD, List.getElem?_eq_getElem h1, List.getElem?_eq_getElem h2] at this
    exact UInt32.toNat_inj.1 this
  · have h8 := s.hm
    have := h (i + 10) (by omega)
    unfold fval at this
    rw [if_neg (by omega), if_neg (by omega), if_neg (by omega), if_neg (by omega), if_neg (by omega), if_neg (by omega), Nat.add_sub_cancel] at this
    rw [List.getD_eq_getElem?_getD, List.getD_eq_getElem?_getD, List.getElem?_eq_getElem h1, List.getElem?_eq_getElem h2] at this
    exact UInt64.toNat_inj.1 this
theorem supOf_body (s : Sup) : supOf (sbody s) = s := sup_ext fun k hk => by rw [fval_supOf _ _ hk, getF_body s k hk]
theorem flatS_supOf (b : List UInt8) (h : b.length = 123) (k : Nat) (hk : k ≤ 18) : flatS (supOf b) k = b.take (foff k) := by
  induction k with
  | zero => rfl
  | succ k ih =>
    have h1 := foff_mono hk
    rw [foff_end] at h1
    have hl : (pieceS b k).length = fsize k := by
      rw [pieceS, List.length_take, List.length_drop, h]
      rw [foff_succ] at h1
      omega
    have hb := be_num8 (pieceS b k)
    rw [hl] at hb
    rw [flatS_succ, ih (by omega), fval_supOf b k (by omega), getF, hb, pieceS, foff_succ, List.take_add]

def rightS (s : Sup) : Bool := decide (0 < s.gen.toNat) && (decide (16 ≤ s.blocks.toNat) && (decide (s.blocks.toNat ≤ 4096) && !s.roots.any (fun r => decide (s.blocks.toNat ≤ r.toNat))))
def bodyOf (p : List UInt8) : List UInt8 := (p.drop 1).take 123
/-- The bytes between the numbers and the generation that stands once more. -/
def midS (b : List UInt8) : List UInt8 := (b.drop 108).take 7
def againS (b : List UInt8) : Nat := num8 ((b.drop 115).take 8)
def isSup (p : List UInt8) : Bool := isPage p && (decide (p.headD 0 = 6) && ((midS (bodyOf p)).all (· == 0) && (decide (againS (bodyOf p) = (supOf (bodyOf p)).gen.toNat) && rightS (supOf (bodyOf p)))))
def spage (s : Sup) : List UInt8 := pageOf 6 (sbody s)
theorem spage_length (s : Sup) : (spage s).length = 128 := pageOf_length _ _ (by rw [sbody_length]; decide)
theorem bodyOf_page (s : Sup) : bodyOf (spage s) = sbody s := by
  unfold bodyOf spage
  rw [page_body _ _ (by rw [sbody_length]; decide)]
  unfold full
  rw [sbody_length]
  simp
theorem mid_body (s : Sup) : midS (sbody s) = List.replicate 7 0 := by
  unfold midS sbody
  rw [← foff_end, ← flatS_length s 18, List.drop_left]
  rfl
theorem again_body (s : Sup) : againS (sbody s) = s.gen.toNat := by
  unfold againS sbody
  rw [← List.append_assoc, show (115 : Nat) = (flatS s 18 ++ List.replicate 7 (0 : UInt8)).length by rw [List.length_append, flatS_length]; rfl, List.drop_left]
  rw [List.take_of_length_le (by rw [be_length]; decide), num8_be]
  exact Nat.mod_eq_of_lt (UInt64.toNat_lt _)
theorem isSup_page (s : Sup) : isSup (spage s) = rightS s := by
  unfold isSup
  rw [bodyOf_page, mid_body, again_body, supOf_body]
  have h1 : isPage (spage s) = true := pageOf_isPage _ _ (by rw [sbody_length]; decide)
  have h2 : (spage s).headD 0 = 6 := page_head _ _
  rw [h1, h2]
  simp
theorem supOf_page (s : Sup) : supOf (bodyOf (spage s)) = s := by rw [bodyOf_page, supOf_body]
theorem page_of_isSup {p : List UInt8} (h : isSup p = true) : spage (supOf (bodyOf p)) = p ∧ rightS (supOf (bodyOf p)) = true := by
  unfold isSup at h
  simp only [Bool.and_eq_true, decide_eq_true_eq] at h
  obtain ⟨h1, h2, h3, h4, h5⟩ := h
  refine ⟨?_, h5⟩
  have hlen : p.length = 128 := by
    unfold isPage at h1
    simp only [Bool.and_eq_true, decide_eq_true_eq] at h1
    exact h1.1
  have hb : (bodyOf p).length = 123 := by unfold bodyOf; simp; omega
  have hbody : sbody (supOf (bodyOf p)) = bodyOf p := by
    have hz : midS (bodyOf p) = List.replicate 7 0 := by
      refine List.eq_replicate_iff.2 ⟨by unfold midS; rw [List.length_take, List.length_drop, hb]; rfl, fun x hx => ?_⟩
      exact beq_iff_eq.1 (List.all_eq_true.1 h3 x hx)
    have hg : be (supOf (bodyOf p)).gen.toNat 8 = ((bodyOf p).drop 115).take 8 := by
      have hl : (((bodyOf p).drop 115).take 8).length = 8 := by rw [List.length_take, List.length_drop, hb]; rfl
      have h6 := be_num8 (((bodyOf p).drop 115).take 8)
      rw [hl] at h6
      rw [← h4]
      exact h6
    unfold sbody
    rw [flatS_supOf _ hb 18 (Nat.le_refl _), hg, ← hz]
    unfold midS
    generalize bodyOf p = b at *
    rw [foff_end, show (b.drop 115) = (b.drop 108).drop 7 by rw [List.drop_drop]]
    rw [← List.take_add, ← List.take_add, List.take_of_length_le (by rw [hb]; decide)]
  unfold spage
  rw [hbody, ← h2]
  exact pageOf_of_isPage p h1
theorem spage_inj {s t : Sup} (h : spage s = spage t) : s = t := by rw [← supOf_page s, h, supOf_page]

end Go.Proofs.Ytfnoeligaapnbaa
