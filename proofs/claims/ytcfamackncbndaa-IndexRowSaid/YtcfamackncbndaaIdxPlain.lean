/-
  Pages of numbers: what is written, what is read. No Go in sight.
-/
import Derived.Test.YtcfamackncbndaaPageB
namespace Go.Proofs.Ytcfamackncbndaa
set_option linter.unusedVariables false

def flat (l : List UInt16) : List UInt8 := l.flatMap fun x => be x.toNat 2
theorem flat_length (l : List UInt16) : (flat l).length = 2 * l.length := by
  induction l with
  | nil => rfl
  | cons x l ih => simp only [flat, List.flatMap_cons, List.length_append, be_length, List.length_cons] at *; omega
theorem flat_append (l k : List UInt16) : flat (l ++ k) = flat l ++ flat k := by simp [flat]
theorem flat_cons (x : UInt16) (l : List UInt16) : flat (x :: l) = be x.toNat 2 ++ flat l := rfl
theorem flat_zeros (n : Nat) : flat (List.replicate n 0) = List.replicate (2 * n) 0 := by
  induction n with
  | zero => rfl
  | succ n ih =>
    rw [List.replicate_succ, flat_cons, ih, show 2 * (n + 1) = 2 * n + 1 + 1 by omega, List.replicate_succ, List.replicate_succ]
    rfl

/-- A body of numbers. -/
def ibody (l : List UInt16) : List UInt8 := UInt8.ofNat l.length :: flat l
theorem ibody_length (l : List UInt16) : (ibody l).length = 1 + 2 * l.length := by simp [ibody, flat_length]; omega
/-- .. of which k are written. -/
def ib (l : List UInt16) (k : Nat) : List UInt8 := UInt8.ofNat l.length :: (flat (l.take k) ++ List.replicate (2 * (l.length - k)) 0)
theorem ib_zero (l : List UInt16) : (List.replicate (1 + 2 * l.length) (0 : UInt8)).take 0 ++ be l.length 1 ++ (List.replicate (1 + 2 * l.length) (0 : UInt8)).drop (0 + 1) = ib l 0 := by
  unfold ib
  rw [List.drop_replicate]
  show [] ++ [UInt8.ofNat l.length] ++ _ = _
  simp [flat]
theorem ib_all (l : List UInt16) : ib l l.length = ibody l := by simp [ib, ibody]
theorem ib_step (l : List UInt16) (k : Nat) (h : k < l.length) : (ib l k).take (1 + 2 * k) ++ be l[k].toNat 2 ++ (ib l k).drop (1 + 2 * k + 2) = ib l (k + 1) := by
  have hf : (flat (l.take k)).length = 2 * k := by rw [flat_length]; simp; omega
  have e1 : (ib l k).take (1 + 2 * k) = UInt8.ofNat l.length :: flat (l.take k) := by
    unfold ib
    rw [Nat.add_comm, List.take_succ_cons, List.take_append_of_le_length (by omega), List.take_of_length_le (by omega)]
  have e2 : (ib l k).drop (1 + 2 * k + 2) = List.replicate (2 * (l.length - (k + 1))) 0 := by
    unfold ib
    rw [show 1 + 2 * k + 2 = (2 * k + 2) + 1 by omega, List.drop_succ_cons, ← hf, List.drop_length_add_append, List.drop_replicate]
    congr 1
    omega
  rw [e1, e2]
  unfold ib
  rw [List.take_succ_eq_append_getElem h, flat_append]
  simp [flat]

/-- The numbers that a body has room for. -/
def numAt (b : List UInt8) (i : Nat) : Nat := num8 ((b.drop (1 + 2 * i)).take 2)
theorem numAt_lt (b : List UInt8) (i : Nat) : numAt b i < 65536 := num8_lt_of (k := 2) (by simp; omega)
def nums (b : List UInt8) : List UInt16 := (List.range 61).map fun i => UInt16.ofNat (numAt b i)
theorem nums_length (b : List UInt8) : (nums b).length = 61 := by simp [nums]

def rightK (kind : UInt8) : Bool := kind == 4 || kind == 5
def bodyOf (p : List UInt8) : List UInt8 := (p.drop 1).take 123
def manyOf (p : List UInt8) : Nat := ((bodyOf p).headD 0).toNat

/-- Is it a page of numbers of this kind? -/
def isIdx (kind : UInt8) (p : List UInt8) : Bool := isPage p && (p.headD 0 == kind) && rightK kind && decide (manyOf p ≤ 61) && ((nums (bodyOf p)).drop (manyOf p)).all (· == 0)
def idxOf (p : List UInt8) : List UInt16 := (nums (bodyOf p)).take (manyOf p)

theorem flat_nums_go (b : List UInt8) : ∀ (k m : Nat), b.length = 1 + 2 * (k + m) → flat ((List.range' k m).map fun i => UInt16.ofNat (numAt b i)) = b.drop (1 + 2 * k)
  | k, 0, h => by simp [flat, h]
  | k, m + 1, h => by
    rw [List.range'_succ, List.map_cons, flat_cons, flat_nums_go b (k + 1) m (by omega)]
    have h2 : ((b.drop (1 + 2 * k)).take 2).length = 2 := by simp; omega
    have e1 : be (UInt16.ofNat (numAt b k)).toNat 2 = (b.drop (1 + 2 * k)).take 2 := by
      have hlt := numAt_lt b k
      have e : (UInt16.ofNat (numAt b k)).toNat = numAt b k := by simp; omega
      rw [e]
      have := be_num8 ((b.drop (1 + 2 * k)).take 2)
      rw [h2] at this
      exact this
    have e3 : b.drop (1 + 2 * (k + 1)) = (b.drop (1 + 2 * k)).drop 2 := by rw [List.drop_drop]; congr 1
    rw [e1, e3, List.take_append_drop]
theorem flat_nums (b : List UInt8) (h : b.length = 123) : flat (nums b) = b.drop 1 := by
  have := flat_nums_go b 0 61 (by omega)
  rw [nums, List.range_eq_range']
  exact this

theorem all_zero : ∀ (l : List UInt16), l.all (· == 0) = true → l = List.replicate l.length 0
  | [], _ => rfl
  | x :: l, h => by
    simp only [List.all_cons, Bool.and_eq_true, beq_iff_eq] at h
    rw [List.length_cons, List.replicate_succ, ← all_zero l h.2, h.1]

/-- What is read is what was written. -/
theorem idx_page (kind : UInt8) (p : List UInt8) (h : isIdx kind p = true) : rightK kind = true ∧ (idxOf p).length ≤ 61 ∧ pageOf kind (ibody (idxOf p)) = p := by
  unfold isIdx at h
  simp only [Bool.and_eq_true, decide_eq_true_eq, beq_iff_eq] at h
  obtain ⟨⟨⟨⟨hp, hk⟩, hr⟩, hm⟩, hz⟩ := h
  have hlen : (idxOf p).length = manyOf p := by unfold idxOf; rw [List.length_take, nums_length]; omega
  refine ⟨hr, by omega, ?_⟩
  have hb : (bodyOf p).length = 123 := by
    have : p.length = 128 := by unfold isPage at hp; simp only [Bool.and_eq_true, decide_eq_true_eq] at hp; exact hp.1
    unfold bodyOf; simp; omega
  have hz2 := all_zero _ hz
  have h1 : (bodyOf p) = full (ibody (idxOf p)) := by
    have h2 : nums (bodyOf p) = idxOf p ++ List.replicate (61 - manyOf p) 0 := by
      have := List.take_append_drop (manyOf p) (nums (bodyOf p))
      rw [hz2, List.length_drop, nums_length] at this
      exact this.symm
    have h3 := flat_nums (bodyOf p) hb
    rw [h2, flat_append, flat_zeros] at h3
    have h4 : bodyOf p = ((bodyOf p).headD 0) :: (bodyOf p).drop 1 := by
      cases hbp : bodyOf p with
      | nil => rw [hbp] at hb; simp at hb
      | cons x t => rfl
    have h5 : UInt8.ofNat (manyOf p) = (bodyOf p).headD 0 := by
      unfold manyOf
      apply UInt8.toNat_inj.1
      simp
    unfold full ibody
    rw [hlen, h5, List.cons_append, List.length_cons, flat_length, hlen, show 123 - (2 * manyOf p + 1) = 2 * (61 - manyOf p) by omega, h3]
    exact h4
  have h6 := pageOf_of_isPage p hp
  rw [hk] at h6
  rw [← pageOf_full kind (ibody (idxOf p)) (by rw [ibody_length]; omega), ← h1]
  exact h6

theorem nums_of (l : List UInt16) (h : l.length ≤ 61) : nums (full (ibody l)) = l ++ List.replicate (61 - l.length) 0 := by
  have hl := full_length (ibody l) (by rw [ibody_length]; omega)
  have h1 := flat_nums (full (ibody l)) hl
  have h2 : (full (ibody l)).drop 1 = flat (l ++ List.replicate (61 - l.length) 0) := by
    unfold full ibody
    rw [flat_append, flat_zeros, List.cons_append, List.drop_succ_cons, List.drop_zero, List.length_cons, flat_length]
    congr 2
    omega
  rw [h2] at h1
  have inj : ∀ (a b : List UInt16), a.length = b.length → flat a = flat b → a = b := by
    intro a
    induction a with
    | nil => intro b hb _; exact (List.eq_nil_of_length_eq_zero (by simpa using hb.symm)).symm
    | cons x a ih =>
      intro b hb he
      cases b with
      | nil => simp at hb
      | cons y b =>
        rw [flat_cons, flat_cons] at he
        obtain ⟨e1, e2⟩ := List.append_inj he (by simp [be_length])
        have e3 := congrArg num8 e1
        rw [num8_be, num8_be] at e3
        have hx := UInt16.toNat_lt x
        have hy := UInt16.toNat_lt y
        have e4 : x = y := UInt16.toNat_inj.1 (by omega)
        rw [e4, ih b (by simpa using hb) e2]
  exact inj _ _ (by rw [nums_length]; simp; omega) h1

/-- What is encoded is decoded. -/
theorem idx_of_page (kind : UInt8) (l : List UInt16) (hr : rightK kind = true) (h : l.length ≤ 61) : isIdx kind (pageOf kind (ibody l)) = true ∧ idxOf (pageOf kind (ibody l)) = l := by
  have hb : (ibody l).length ≤ 123 := by rw [ibody_length]; omega
  have e1 : bodyOf (pageOf kind (ibody l)) = full (ibody l) := page_body kind (ibody l) hb
  have e2 : manyOf (pageOf kind (ibody l)) = l.length := by
    unfold manyOf
    rw [e1]
    show (UInt8.ofNat l.length).toNat = _
    simp
    omega
  constructor
  · unfold isIdx
    rw [pageOf_isPage kind _ hb, page_head, hr, e2, e1, nums_of l h, List.drop_append_of_le_length (Nat.le_refl _), List.drop_length]
    simp [h]
  · unfold idxOf
    rw [e1, e2, nums_of l h, List.take_append_of_le_length (Nat.le_refl _), List.take_length]

theorem isIdx_head (kind : UInt8) (p : List UInt8) (h : isIdx kind p = true) : p.headD 0 = kind := by
  unfold isIdx at h
  simp only [Bool.and_eq_true, beq_iff_eq] at h
  exact h.1.1.1.2

/-- Unlike numbers have unlike pages. -/
theorem ipage_inj (kind : UInt8) (l k : List UInt16) (hr : rightK kind = true) (hl : l.length ≤ 61) (hk : k.length ≤ 61) (h : pageOf kind (ibody l) = pageOf kind (ibody k)) : l = k := by
  rw [← (idx_of_page kind l hr hl).2, h, (idx_of_page kind k hr hk).2]

end Go.Proofs.Ytcfamackncbndaa
