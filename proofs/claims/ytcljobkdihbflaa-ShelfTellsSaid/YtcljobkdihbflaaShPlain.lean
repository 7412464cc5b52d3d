/-
  Shelves and their pages: which are right, what is written, what is read. No Go in sight.
-/
import Derived.Test.YtcljobkdihbflaaPageB
namespace Go.Proofs.Ytcljobkdihbflaa
set_option linter.unusedVariables false

abbrev Ent := UInt64 × UInt32
def e0 : Ent := (0, 0)
def ebytes (e : Ent) : List UInt8 := be e.1.toNat 8 ++ be e.2.toNat 4
theorem ebytes_length (e : Ent) : (ebytes e).length = 12 := by simp [ebytes, be_length]
def eflat (l : List Ent) : List UInt8 := l.flatMap ebytes
theorem eflat_length (l : List Ent) : (eflat l).length = 12 * l.length := by
  induction l with
  | nil => rfl
  | cons x l ih => simp only [eflat, List.flatMap_cons, List.length_append, ebytes_length, List.length_cons] at *; omega
theorem eflat_append (l k : List Ent) : eflat (l ++ k) = eflat l ++ eflat k := by simp [eflat]
theorem eflat_cons (x : Ent) (l : List Ent) : eflat (x :: l) = ebytes x ++ eflat l := rfl
theorem eflat_one (x : Ent) : eflat [x] = ebytes x := by simp [eflat]

structure Shelf where
  depth : UInt8
  next : UInt32
  ents : List Ent

/-- Stands a ahead of b? -/
def eltB (a b : Ent) : Bool := decide (a.1.toNat < b.1.toNat ∨ a.1.toNat = b.1.toNat ∧ a.2.toNat < b.2.toNat)
def blkB (e : Ent) : Bool := decide (0 < e.2.toNat ∧ e.2.toNat < 4096)
def okB (l : List Ent) (i : Nat) : Bool := blkB (l.getD i e0) && (decide (i = 0) || eltB (l.getD (i - 1) e0) (l.getD i e0))
def upB (l : List Ent) (k : Nat) : Bool := (List.range k).all (okB l)
def alikeB (l : List Ent) (d : Nat) : Bool := decide ((l.getD 0 e0).1.toNat / 2 ^ (64 - d) = (l.getD (l.length - 1) e0).1.toNat / 2 ^ (64 - d))
/-- Is it a shelf? -/
def rightB (s : Shelf) : Bool := decide (s.depth.toNat ≤ 64) && (decide (s.next.toNat < 4096) && (decide (s.ents.length ≤ 9) && (upB s.ents s.ents.length && alikeB s.ents s.depth.toNat)))

theorem upB_zero (l : List Ent) : upB l 0 = true := rfl
theorem upB_succ (l : List Ent) (k : Nat) : upB l (k + 1) = (upB l k && okB l k) := by simp [upB, List.range_succ, List.all_append]
theorem upB_iff {l : List Ent} {k : Nat} : upB l k = true ↔ ∀ i, i < k → okB l i = true := by simp [upB]
theorem upB_no {l : List Ent} {k i : Nat} (hi : i < k) (h : okB l i = false) : upB l k = false := by
  cases hu : upB l k
  · rfl
  · rw [upB_iff.1 hu i hi] at h; cases h

theorem rightB_iff {s : Shelf} : rightB s = true ↔ s.depth.toNat ≤ 64 ∧ s.next.toNat < 4096 ∧ s.ents.length ≤ 9 ∧ upB s.ents s.ents.length = true ∧ alikeB s.ents s.depth.toNat = true := by
  unfold rightB; simp only [Bool.and_eq_true, decide_eq_true_eq]

/-- A body. -/
def sbody (s : Shelf) : List UInt8 := [s.depth] ++ [UInt8.ofNat s.ents.length] ++ be s.next.toNat 4 ++ eflat s.ents
theorem sbody_length (s : Shelf) : (sbody s).length = 6 + 12 * s.ents.length := by simp [sbody, eflat_length, be_length]; omega

def bodyOf (p : List UInt8) : List UInt8 := (p.drop 1).take 123
theorem bodyOf_length {p : List UInt8} (h : isPage p = true) : (bodyOf p).length = 123 := by
  have : p.length = 128 := by unfold isPage at h; simp only [Bool.and_eq_true, decide_eq_true_eq] at h; exact h.1
  unfold bodyOf; simp; omega
def numAt (b : List UInt8) (at_ size : Nat) : Nat := num8 ((b.drop at_).take size)
def entAt (b : List UInt8) (i : Nat) : Ent := (UInt64.ofNat (numAt b (6 + 12 * i) 8), UInt32.ofNat (numAt b (14 + 12 * i) 4))
def entsOf (b : List UInt8) (m : Nat) : List Ent := (List.range m).map (entAt b)
theorem entsOf_length (b : List UInt8) (m : Nat) : (entsOf b m).length = m := by simp [entsOf]
theorem entsOf_succ (b : List UInt8) (m : Nat) : entsOf b (m + 1) = entsOf b m ++ [entAt b m] := by simp [entsOf, List.range_succ]
def manyOf (b : List UInt8) : Nat := numAt b 1 1
def shelfAt (b : List UInt8) : Shelf := ⟨UInt8.ofNat (numAt b 0 1), UInt32.ofNat (numAt b 2 4), entsOf b (manyOf b)⟩
def shelfOf (p : List UInt8) : Shelf := shelfAt (bodyOf p)

theorem be_numAt (b : List UInt8) (at_ size : Nat) (h : at_ + size ≤ b.length) : be (numAt b at_ size) size = (b.drop at_).take size := by
  have := be_num8 ((b.drop at_).take size)
  have hl : ((b.drop at_).take size).length = size := by simp; omega
  rw [hl] at this
  exact this
theorem numAt_lt (b : List UInt8) (at_ size : Nat) : numAt b at_ size < 256 ^ size := num8_lt_of (k := size) (by simp; omega)

theorem cut12 (b : List UInt8) (k : Nat) : (b.drop k).take 12 = (b.drop k).take 8 ++ (b.drop (k + 8)).take 4 := by
  rw [show 12 = 8 + 4 from rfl, List.take_add, List.drop_drop]

theorem ebytes_at (b : List UInt8) (i : Nat) (h : 6 + 12 * (i + 1) ≤ b.length) : ebytes (entAt b i) = (b.drop (6 + 12 * i)).take 12 := by
  have l1 := numAt_lt b (6 + 12 * i) 8
  have l2 := numAt_lt b (14 + 12 * i) 4
  have e1 : (UInt64.ofNat (numAt b (6 + 12 * i) 8)).toNat = numAt b (6 + 12 * i) 8 := by simp; omega
  have e2 : (UInt32.ofNat (numAt b (14 + 12 * i) 4)).toNat = numAt b (14 + 12 * i) 4 := by simp; omega
  unfold ebytes entAt
  rw [e1, e2, be_numAt _ _ _ (by omega), be_numAt _ _ _ (by omega), cut12, show 6 + 12 * i + 8 = 14 + 12 * i by omega]

theorem eflat_ents (b : List UInt8) : ∀ (m : Nat), 6 + 12 * m ≤ b.length → eflat (entsOf b m) = (b.drop 6).take (12 * m)
  | 0, _ => by simp [entsOf, eflat]
  | m + 1, h => by
    rw [entsOf_succ, eflat_append, eflat_ents b m (by omega), eflat_one, ebytes_at b m h, show 12 * (m + 1) = 12 * m + 12 by omega, List.take_add, List.drop_drop]

theorem eflat_inj : ∀ (a b : List Ent), a.length = b.length → eflat a = eflat b → a = b
  | [], b, hb, _ => (List.eq_nil_of_length_eq_zero (by simpa using hb.symm)).symm
  | x :: a, [], hb, _ => by simp at hb
  | x :: a, y :: b, hb, he => by
    rw [eflat_cons, eflat_cons] at he
    obtain ⟨e1, e2⟩ := List.append_inj he (by rw [ebytes_length, ebytes_length])
    unfold ebytes at e1
    obtain ⟨e3, e4⟩ := List.append_inj e1 (by rw [be_length, be_length])
    have e3 := congrArg num8 e3
    have e4 := congrArg num8 e4
    rw [num8_be, num8_be] at e3 e4
    have h1 := UInt64.toNat_lt x.1
    have h2 := UInt64.toNat_lt y.1
    have h3 := UInt32.toNat_lt x.2
    have h4 := UInt32.toNat_lt y.2
    have e5 : x.1 = y.1 := UInt64.toNat_inj.1 (by omega)
    have e6 : x.2 = y.2 := UInt32.toNat_inj.1 (by omega)
    rw [Prod.ext e5 e6, eflat_inj a b (by simpa using hb) e2]

/-- Is it a shelf's page? -/
def isShelf (p : List UInt8) : Bool := isPage p && ((p.headD 0 == 3) && (decide (manyOf (bodyOf p) ≤ 9) && (rightB (shelfOf p) && ((bodyOf p).drop (6 + 12 * manyOf (bodyOf p))).all (· == 0))))

theorem all_zero8 : ∀ (l : List UInt8), l.all (· == 0) = true → l = List.replicate l.length 0
  | [], _ => rfl
  | x :: l, h => by
    simp only [List.all_cons, Bool.and_eq_true, beq_iff_eq] at h
    rw [List.length_cons, List.replicate_succ, ← all_zero8 l h.2, h.1]

theorem byte_at (b : List UInt8) (i : Nat) (h : i < b.length) : [UInt8.ofNat (numAt b i 1)] = (b.drop i).take 1 := by
  rw [← be_numAt b i 1 (by omega)]
  rfl

theorem shelfAt_body (b : List UInt8) (h : 6 + 12 * manyOf b ≤ b.length) : sbody (shelfAt b) = b.take (6 + 12 * manyOf b) := by
  have hb : 6 ≤ b.length := by omega
  have l2 := numAt_lt b 2 4
  have e2 : (UInt32.ofNat (numAt b 2 4)).toNat = numAt b 2 4 := by simp; omega
  unfold sbody shelfAt
  rw [entsOf_length, eflat_ents b _ h, e2, be_numAt b 2 4 (by omega), byte_at b 0 (by omega), show manyOf b = numAt b 1 1 from rfl, byte_at b 1 (by omega), List.drop_zero]
  rw [show 6 + 12 * numAt b 1 1 = 1 + (1 + (4 + 12 * numAt b 1 1)) by omega, List.take_add, List.take_add, List.take_add, List.drop_drop, List.drop_drop]
  simp

/-- What is read is what was written. -/
theorem shelf_page (p : List UInt8) (h : isShelf p = true) : rightB (shelfOf p) = true ∧ pageOf 3 (sbody (shelfOf p)) = p := by
  unfold isShelf at h
  simp only [Bool.and_eq_true, decide_eq_true_eq, beq_iff_eq] at h
  obtain ⟨hp, hk, hm, hr, hz⟩ := h
  refine ⟨hr, ?_⟩
  have hb := bodyOf_length hp
  have h1 := shelfAt_body (bodyOf p) (by omega)
  have h2 : full (sbody (shelfOf p)) = bodyOf p := by
    unfold full
    rw [sbody_length, show (shelfOf p).ents.length = manyOf (bodyOf p) from entsOf_length _ _]
    show sbody (shelfAt (bodyOf p)) ++ _ = _
    rw [h1]
    have h3 := all_zero8 _ hz
    rw [List.length_drop, hb] at h3
    rw [← h3]
    exact List.take_append_drop _ _
  have h6 := pageOf_of_isPage p hp
  rw [hk] at h6
  rw [← pageOf_full 3 (sbody (shelfOf p)) (by rw [sbody_length, show (shelfOf p).ents.length = manyOf (bodyOf p) from entsOf_length _ _]; omega), h2]
  exact h6

theorem numAt_mid (a b c : List UInt8) (k n : Nat) (h : b = be n k) : numAt (a ++ b ++ c) a.length k = n % 256 ^ k := by
  unfold numAt
  subst h
  rw [List.append_assoc, List.drop_left, List.take_append_of_le_length (by rw [be_length]; omega), List.take_of_length_le (by rw [be_length]; omega), num8_be]

/-- What is encoded is decoded. -/
theorem shelf_of_page (s : Shelf) (h : rightB s = true) : isShelf (pageOf 3 (sbody s)) = true ∧ shelfOf (pageOf 3 (sbody s)) = s := by
  obtain ⟨h1, h2, h3, h4, h5⟩ := rightB_iff.1 h
  have hb : (sbody s).length ≤ 123 := by rw [sbody_length]; omega
  have e1 : bodyOf (pageOf 3 (sbody s)) = full (sbody s) := page_body 3 (sbody s) hb
  obtain ⟨z, hz⟩ : ∃ z, z = List.replicate (123 - (sbody s).length) (0 : UInt8) := ⟨_, rfl⟩
  have ef : full (sbody s) = sbody s ++ z := by rw [hz]; rfl
  have d0 : numAt (full (sbody s)) 0 1 = s.depth.toNat := by
    have := numAt_mid [] [s.depth] ([UInt8.ofNat s.ents.length] ++ be s.next.toNat 4 ++ eflat s.ents ++ z) 1 s.depth.toNat (by simp [be])
    rw [ef]
    unfold sbody
    simp only [List.append_assoc, List.nil_append, List.length_nil] at this ⊢
    rw [this]
    have := UInt8.toNat_lt s.depth
    omega
  have d1 : manyOf (full (sbody s)) = s.ents.length := by
    have := numAt_mid [s.depth] [UInt8.ofNat s.ents.length] (be s.next.toNat 4 ++ eflat s.ents ++ z) 1 s.ents.length rfl
    rw [ef]
    unfold sbody manyOf
    simp only [List.append_assoc, List.length_singleton] at this ⊢
    rw [this]
    omega
  have d2 : numAt (full (sbody s)) 2 4 = s.next.toNat := by
    have := numAt_mid ([s.depth] ++ [UInt8.ofNat s.ents.length]) (be s.next.toNat 4) (eflat s.ents ++ z) 4 s.next.toNat rfl
    rw [ef]
    unfold sbody
    simp only [List.append_assoc, List.length_append, List.length_singleton] at this ⊢
    rw [this]
    have := UInt32.toNat_lt s.next
    omega
  have d3 : entsOf (full (sbody s)) s.ents.length = s.ents := by
    refine eflat_inj _ _ (entsOf_length _ _) ?_
    rw [eflat_ents _ _ (by rw [full_length _ hb]; omega), ef]
    unfold sbody
    rw [List.append_assoc, List.append_assoc, List.append_assoc, ← List.append_assoc [s.depth], ← List.append_assoc ([s.depth] ++ _) (be s.next.toNat 4)]
    have hl : ([s.depth] ++ [UInt8.ofNat s.ents.length] ++ be s.next.toNat 4).length = 6 := by simp [be_length]
    rw [← hl, List.drop_left, ← eflat_length, List.take_left]
  have hs : shelfOf (pageOf 3 (sbody s)) = s := by
    unfold shelfOf shelfAt
    rw [e1, d0, d1, d2, d3]
    obtain ⟨a, b, c⟩ := s
    simp
  refine ⟨?_, hs⟩
  unfold isShelf
  rw [hs, h, pageOf_isPage 3 _ hb, page_head, e1, d1, ← sbody_length, ef, List.drop_left, hz]
  simp [h3]

theorem isShelf_head (p : List UInt8) (h : isShelf p = true) : p.headD 0 = 3 := by
  unfold isShelf at h
  simp only [Bool.and_eq_true, beq_iff_eq] at h
  exact h.2.1

/-- Unlike shelves have unlike pages. -/
theorem spage_inj (s t : Shelf) (hs : rightB s = true) (ht : rightB t = true) (h : pageOf 3 (sbody s) = pageOf 3 (sbody t)) : s = t := by
  rw [← (shelf_of_page s hs).2, h, (shelf_of_page t ht).2]

/-- Whether two shelves are the same. -/
def sameS (s t : Shelf) : Bool := decide (s.depth = t.depth) && (decide (s.next = t.next) && decide (s.ents = t.ents))
theorem sameS_iff {s t : Shelf} : sameS s t = true ↔ s = t := by
  obtain ⟨a, b, c⟩ := s
  obtain ⟨a', b', c'⟩ := t
  simp [sameS]

end Go.Proofs.Ytcljobkdihbflaa
