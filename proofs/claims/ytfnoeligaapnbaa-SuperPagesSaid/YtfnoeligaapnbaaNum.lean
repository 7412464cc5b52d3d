/-
  Numbers as bytes, the highest first; sums of bytes; pages. No Go in sight.
-/
import Derived.WalkKit
import Derived.Laws.BitsAllLaws
namespace Go.Proofs.Ytfnoeligaapnbaa
set_option linter.unusedVariables false

/-- The number whose bytes stand there. -/
def numFrom (n : Nat) (l : List UInt8) : Nat := l.foldl (fun n x => n * 256 + x.toNat) n
def num8 (l : List UInt8) : Nat := numFrom 0 l
/-- The last k bytes of a number, the highest first. -/
def be (n : Nat) : Nat → List UInt8
  | 0 => []
  | k + 1 => be (n / 256) k ++ [UInt8.ofNat n]

theorem be_length (n k : Nat) : (be n k).length = k := by
  induction k generalizing n with
  | zero => rfl
  | succ k ih => simp [be, ih]

theorem numFrom_snoc (n : Nat) (l : List UInt8) (x : UInt8) : numFrom n (l ++ [x]) = numFrom n l * 256 + x.toNat := by
  unfold numFrom; rw [List.foldl_append]; rfl
theorem num8_snoc (l : List UInt8) (x : UInt8) : num8 (l ++ [x]) = num8 l * 256 + x.toNat := numFrom_snoc 0 l x

theorem num8_lt (l : List UInt8) : num8 l < 256 ^ l.length := by
  induction h : l.length generalizing l with
  | zero => have : l = [] := List.eq_nil_of_length_eq_zero h; subst this; simp [num8, numFrom]
  | succ k ih =>
    have hne : l ≠ [] := by intro e; subst e; simp at h
    obtain ⟨l', x, rfl⟩ : ∃ l' x, l = l' ++ [x] := ⟨l.dropLast, l.getLast hne, (List.dropLast_concat_getLast hne).symm⟩
    have hl' : l'.length = k := by simp at h; omega
    have := ih l' hl'
    have hx := UInt8.toNat_lt x
    rw [num8_snoc, Nat.pow_succ]
    omega

theorem num8_lt_of {l : List UInt8} {k : Nat} (h : l.length ≤ k) : num8 l < 256 ^ k :=
  Nat.lt_of_lt_of_le (num8_lt l) (Nat.pow_le_pow_right (by omega) h)

theorem num8_be (n k : Nat) : num8 (be n k) = n % 256 ^ k := by
  induction k generalizing n with
  | zero => simp [be, num8, numFrom, Nat.mod_one]
  | succ k ih =>
    have e : be n (k + 1) = be (n / 256) k ++ [UInt8.ofNat n] := rfl
    rw [e, num8_snoc, ih]
    have e2 : (UInt8.ofNat n).toNat = n % 256 := by simp
    rw [e2, Nat.pow_succ, Nat.mul_comm (256 ^ k) 256, Nat.mod_mul]
    omega

theorem be_num8 (l : List UInt8) : be (num8 l) l.length = l := by
  induction h : l.length generalizing l with
  | zero => have : l = [] := List.eq_nil_of_length_eq_zero h; subst this; rfl
  | succ k ih =>
    have hne : l ≠ [] := by intro e; subst e; simp at h
    obtain ⟨l', x, rfl⟩ : ∃ l' x, l = l' ++ [x] := ⟨l.dropLast, l.getLast hne, (List.dropLast_concat_getLast hne).symm⟩
    have hl' : l'.length = k := by simp at h; omega
    have hx := UInt8.toNat_lt x
    rw [num8_snoc]
    show be ((num8 l' * 256 + x.toNat) / 256) k ++ [UInt8.ofNat (num8 l' * 256 + x.toNat)] = _
    rw [show (num8 l' * 256 + x.toNat) / 256 = num8 l' by omega, ih l' hl']
    congr 2
    apply UInt8.toNat_inj.1
    simp

theorem num8_append (a b : List UInt8) : num8 (a ++ b) = num8 a * 256 ^ b.length + num8 b := by
  induction h : b.length generalizing b with
  | zero => have : b = [] := List.eq_nil_of_length_eq_zero h; subst this; simp [num8, numFrom]
  | succ k ih =>
    have hne : b ≠ [] := by intro e; subst e; simp at h
    obtain ⟨l', x, rfl⟩ : ∃ l' x, b = l' ++ [x] := ⟨b.dropLast, b.getLast hne, (List.dropLast_concat_getLast hne).symm⟩
    have hl' : l'.length = k := by simp at h; omega
    rw [← List.append_assoc, num8_snoc, num8_snoc, ih l' hl', Nat.pow_succ]
    rw [Nat.add_mul, Nat.mul_assoc]
    omega

/-- Byte j of the bytes of n, counted from the end. -/
theorem be_get (n k j : Nat) (h : j < k) : (be n k)[k - 1 - j]? = some (UInt8.ofNat (n / 256 ^ j)) := by
  induction j generalizing n k with
  | zero =>
    obtain ⟨k, rfl⟩ : ∃ k', k = k' + 1 := ⟨k - 1, by omega⟩
    show (be (n / 256) k ++ [UInt8.ofNat n])[k + 1 - 1 - 0]? = _
    rw [List.getElem?_append_right (by rw [be_length]; omega), be_length]
    simp
  | succ j ih =>
    obtain ⟨k, rfl⟩ : ∃ k', k = k' + 1 := ⟨k - 1, by omega⟩
    show (be (n / 256) k ++ [UInt8.ofNat n])[k + 1 - 1 - (j + 1)]? = _
    rw [List.getElem?_append_left (by rw [be_length]; omega), show k + 1 - 1 - (j + 1) = k - 1 - j by omega, ih _ _ (by omega), Nat.div_div_eq_div_mul, Nat.pow_succ, Nat.mul_comm]

/-- 'n << 8 | x' of a number below 2^56. -/
theorem or_byte (n x : Nat) (hn : n < 72057594037927936) (hx : x < 256) : bits .or .u64 ((n : Int) * 256) (x : Int) = ((n * 256 + x : Nat) : Int) := by
  rw [show ((n : Int) * 256) = ((n * 256 : Nat) : Int) by omega, u64_or_nat _ _ (by omega) (by omega)]
  congr 1
  have h := Nat.shiftLeft_add_eq_or_of_lt (i := 8) (b := x) (by omega) n
  rw [Nat.shiftLeft_eq, show (2 : Nat) ^ 8 = 256 from rfl] at h
  omega

theorem byte_of (N k : Nat) : ((N : Int) / 2 ^ (8 * k) % 256) = ((UInt8.ofNat (N / 256 ^ k)).toNat : Int) := by
  have e : (UInt8.ofNat (N / 256 ^ k)).toNat = N / 256 ^ k % 256 := by simp
  rw [e, show (256 : Nat) = 2 ^ 8 from rfl, ← Nat.pow_mul]
  simp

/-- One step of the sum. -/
def sumStep (s x : Nat) : Nat := (31 * s + x + 7) % 4294967291
def sumFrom (s : Nat) (l : List UInt8) : Nat := l.foldl (fun s x => sumStep s x.toNat) s
/-- The sum of bytes. -/
def sum8 (l : List UInt8) : Nat := sumFrom 1 l

theorem sumStep_lt (s x : Nat) : sumStep s x < 4294967291 := Nat.mod_lt _ (by omega)
theorem sumFrom_lt : ∀ (l : List UInt8) (s : Nat), s < 4294967291 → sumFrom s l < 4294967291
  | [], s, h => h
  | x :: l, s, _ => sumFrom_lt l _ (sumStep_lt _ _)
theorem sum8_lt (l : List UInt8) : sum8 l < 4294967291 := sumFrom_lt l 1 (by omega)
theorem sumFrom_append (l k : List UInt8) (s : Nat) : sumFrom s (l ++ k) = sumFrom (sumFrom s l) k := by
  unfold sumFrom; rw [List.foldl_append]
theorem sumFrom_snoc (l : List UInt8) (x : UInt8) (s : Nat) : sumFrom s (l ++ [x]) = sumStep (sumFrom s l) x.toNat := by
  rw [sumFrom_append]; rfl
theorem take_snoc8 (l : List UInt8) (k : Nat) (h : k < l.length) : l.take (k + 1) = l.take k ++ [l[k]] := by
  rw [List.take_succ_eq_append_getElem h]

/-- A step of the sum tells unlike sums apart. -/
theorem sumStep_inj (s t x : Nat) (hs : s < 4294967291) (ht : t < 4294967291) (h : sumStep s x = sumStep t x) : s = t := by
  unfold sumStep at h
  omega
theorem sumStep_byte (s x y : Nat) (hx : x < 256) (hy : y < 256) (h : sumStep s x = sumStep s y) : x = y := by
  unfold sumStep at h
  omega
theorem sumFrom_inj : ∀ (l : List UInt8) (s t : Nat), s < 4294967291 → t < 4294967291 → sumFrom s l = sumFrom t l → s = t
  | [], _, _, _, _, h => h
  | x :: l, s, t, hs, ht, h => sumStep_inj s t x.toNat hs ht (sumFrom_inj l _ _ (sumStep_lt _ _) (sumStep_lt _ _) h)

/-- Bytes of which one is another one have another sum. -/
theorem sum8_one (a b : List UInt8) (x y : UInt8) (hne : x ≠ y) : sum8 (a ++ x :: b) ≠ sum8 (a ++ y :: b) := by
  intro h
  unfold sum8 at h
  rw [sumFrom_append, sumFrom_append] at h
  have h2 : sumStep (sumFrom 1 a) x.toNat = sumStep (sumFrom 1 a) y.toNat := sumFrom_inj b _ _ (sumStep_lt _ _) (sumStep_lt _ _) h
  exact hne (UInt8.toNat_inj.1 (sumStep_byte _ _ _ (UInt8.toNat_lt x) (UInt8.toNat_lt y) h2))

theorem sumStep_two (s x y : Nat) : sumStep (sumStep s x) y = (961 * s + (31 * x + y + 224)) % 4294967291 := by
  unfold sumStep
  omega

theorem two_mod (t x y : Nat) (hx : x < 256) (hy : y < 256) (h : (t + (31 * x + y + 224)) % 4294967291 = (t + (31 * y + x + 224)) % 4294967291) : x = y := by
  omega

/-- Two neighbours exchanged: another sum. -/
theorem sum8_two (a b : List UInt8) (x y : UInt8) (hne : x ≠ y) : sum8 (a ++ x :: y :: b) ≠ sum8 (a ++ y :: x :: b) := by
  intro h
  unfold sum8 at h
  rw [sumFrom_append, sumFrom_append] at h
  have e : ∀ (s : Nat) (x y : UInt8), sumFrom s (x :: y :: b) = sumFrom (sumStep (sumStep s x.toNat) y.toNat) b := fun _ _ _ => rfl
  rw [e, e] at h
  have h2 := sumFrom_inj b _ _ (sumStep_lt _ _) (sumStep_lt _ _) h
  rw [sumStep_two, sumStep_two] at h2
  exact hne (UInt8.toNat_inj.1 (two_mod _ _ _ (UInt8.toNat_lt x) (UInt8.toNat_lt y) h2))

/-- A page's kind and body, noughts behind it. -/
def said (kind : UInt8) (body : List UInt8) : List UInt8 := kind :: body ++ List.replicate (123 - body.length) 0
/-- A page. -/
def pageOf (kind : UInt8) (body : List UInt8) : List UInt8 := said kind body ++ be (sum8 (said kind body)) 4
/-- Is it a page? -/
def isPage (p : List UInt8) : Bool := decide (p.length = 128) && decide (num8 (p.drop 124) = sum8 (p.take 124))

theorem said_length (kind : UInt8) (body : List UInt8) (h : body.length ≤ 123) : (said kind body).length = 124 := by
  simp [said]; omega
theorem pageOf_length (kind : UInt8) (body : List UInt8) (h : body.length ≤ 123) : (pageOf kind body).length = 128 := by
  simp [pageOf, said_length kind body h, be_length]
theorem pageOf_isPage (kind : UInt8) (body : List UInt8) (h : body.length ≤ 123) : isPage (pageOf kind body) = true := by
  have hl := said_length kind body h
  unfold isPage
  rw [pageOf_length kind body h]
  have e1 : (pageOf kind body).drop 124 = be (sum8 (said kind body)) 4 := by unfold pageOf; rw [List.drop_append_of_le_length (by omega), List.drop_of_length_le (by omega)]; rfl
  have e2 : (pageOf kind body).take 124 = said kind body := by unfold pageOf; rw [List.take_append_of_le_length (by omega), List.take_of_length_le (by omega)]
  rw [e1, e2, num8_be]
  have := sum8_lt (said kind body)
  simp
  omega

end Go.Proofs.Ytfnoeligaapnbaa
