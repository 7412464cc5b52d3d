/-
  Disks: the plain law. No Go in sight.
-/
import Derived.Test.YtdnhlpddnbholaaMem
namespace Go.Proofs.Ytdnhlpddnbholaa
set_option linter.unusedVariables false

/-- A disk: what its blocks say, the writes that wait (in order), what is let through, whether the power is gone. -/
structure Dk where
  blks : List (List UInt8)
  waits : List (Nat × List UInt8)
  left : Int
  down : Bool
/-- A disk that is one. -/
structure Dk.Ok (D : Dk) : Prop where
  blk : ∀ i, i < D.blks.length → (D.blks.getD i []).length = 128
  wait : ∀ x ∈ D.waits, x.1 < D.blks.length ∧ x.2.length = 128
  pos : 16 ≤ D.blks.length
  many : D.blks.length ≤ 4096
  few : D.waits.length ≤ 1000
  lo : -1 ≤ D.left
  hi : D.left ≤ 9223372036854775807

def nW : Nat × List UInt8 := (0, List.replicate 128 0)
/-- The last write of a place among the first k ones. -/
def lastK (l : List (Nat × List UInt8)) (a : Int) : Nat → Option Nat
  | 0 => none
  | k + 1 => if ((l.getD k nW).1 : Int) = a then some k else lastK l a k
/-- As a number: below 0, there is none. -/
def lastZ (o : Option Nat) : Int := match o with | some i => (i : Int) | none => -1
theorem lastK_some {l : List (Nat × List UInt8)} {a : Int} {i : Nat} : ∀ {k : Nat}, lastK l a k = some i → i < k ∧ ((l.getD i nW).1 : Int) = a ∧ ∀ j, i < j → j < k → ((l.getD j nW).1 : Int) ≠ a
  | 0, h => by cases h
  | k + 1, h => by
    unfold lastK at h
    split at h
    · rename_i hk
      injection h with h
      subst h
      exact ⟨Nat.lt_succ_self _, hk, fun j h1 h2 => by omega⟩
    · rename_i hk
      obtain ⟨h1, h2, h3⟩ := lastK_some h
      refine ⟨by omega, h2, fun j g1 g2 => ?_⟩
      by_cases e : j = k
      · subst e; exact hk
      · exact h3 j g1 (by omega)
theorem lastK_none {l : List (Nat × List UInt8)} {a : Int} : ∀ {k : Nat}, lastK l a k = none → ∀ j, j < k → ((l.getD j nW).1 : Int) ≠ a
  | 0, _, j, hj => absurd hj (Nat.not_lt_zero _)
  | k + 1, h, j, hj => by
    unfold lastK at h
    split at h
    · cases h
    · rename_i hk
      by_cases e : j = k
      · subst e; exact hk
      · exact lastK_none h j (by omega)
theorem lastK_append (l m : List (Nat × List UInt8)) (a : Int) : ∀ k, k ≤ l.length → lastK (l ++ m) a k = lastK l a k
  | 0, _ => rfl
  | k + 1, h => by
    unfold lastK
    rw [lastK_append l m a k (by omega), show (l ++ m).getD k nW = l.getD k nW by rw [List.getD_eq_getElem?_getD, List.getD_eq_getElem?_getD, List.getElem?_append_left (by omega)]]
theorem lastK_snoc (l : List (Nat × List UInt8)) (x : Nat × List UInt8) (a : Int) : lastK (l ++ [x]) a (l ++ [x]).length = if (x.1 : Int) = a then some l.length else lastK l a l.length := by
  rw [List.length_append, List.length_singleton]
  show (if (((l ++ [x]).getD l.length nW).1 : Int) = a then some l.length else lastK (l ++ [x]) a l.length) = _
  rw [lastK_append l [x] a _ (Nat.le_refl _), show (l ++ [x]).getD l.length nW = x by simp [List.getD]]

/-- What a block says. -/
def readB (D : Dk) (a : Nat) : List UInt8 := match lastK D.waits a D.waits.length with | some i => (D.waits.getD i nW).2 | none => D.blks.getD a []
/-- A block of which the first k bytes are written. -/
def putB (bl : List (List UInt8)) (x : Nat × List UInt8) (k : Nat) : List (List UInt8) := bl.set x.1 (x.2.take k ++ (bl.getD x.1 []).drop k)
theorem putB_length (bl : List (List UInt8)) (x : Nat × List UInt8) (k : Nat) : (putB bl x k).length = bl.length := by simp [putB]
theorem putB_get (bl : List (List UInt8)) (x : Nat × List UInt8) (k a : Nat) (hx : x.1 < bl.length) : (putB bl x k).getD a [] = if x.1 = a then x.2.take k ++ (bl.getD a []).drop k else bl.getD a [] := by
  unfold putB
  by_cases e : x.1 = a
  · subst e
    rw [if_pos rfl]
    simp [List.getD, List.getElem?_set, hx]
  · rw [if_neg e]
    simp [List.getD, List.getElem?_set, e]
/-- All that wait, and are among the first k, are written. -/
def flushK (D : Dk) : Nat → List (List UInt8)
  | 0 => D.blks
  | k + 1 => putB (flushK D k) (D.waits.getD k nW) 128
/-- What a crash leaves of the first k that wait. -/
def crashK (keep : List Bool) (torn : Int) (cut : Nat) (D : Dk) : Nat → List (List UInt8)
  | 0 => D.blks
  | k + 1 => if (k : Int) = torn then putB (crashK keep torn cut D k) (D.waits.getD k nW) cut else if keep.getD k false = true then putB (crashK keep torn cut D k) (D.waits.getD k nW) 128 else crashK keep torn cut D k
theorem flushK_length (D : Dk) : ∀ k, (flushK D k).length = D.blks.length
  | 0 => rfl
  | k + 1 => by unfold flushK; rw [putB_length, flushK_length D k]
theorem crashK_length (keep : List Bool) (torn : Int) (cut : Nat) (D : Dk) : ∀ k, (crashK keep torn cut D k).length = D.blks.length
  | 0 => rfl
  | k + 1 => by
    unfold crashK
    have := crashK_length keep torn cut D k
    split
    · rw [putB_length, this]
    · split
      · rw [putB_length, this]
      · exact this

theorem Dk.Ok.waitAt {D : Dk} (h : D.Ok) (k : Nat) (hk : k < D.waits.length) : (D.waits.getD k nW).1 < D.blks.length ∧ (D.waits.getD k nW).2.length = 128 := by
  refine h.wait _ ?_
  rw [List.getD_eq_getElem?_getD, List.getElem?_eq_getElem hk]
  exact List.getElem_mem _
theorem putB_ok {bl : List (List UInt8)} {x : Nat × List UInt8} {k : Nat} (h : ∀ i, i < bl.length → (bl.getD i []).length = 128) (hx : x.1 < bl.length) (hl : x.2.length = 128) (hk : k ≤ 128) : ∀ i, i < bl.length → ((putB bl x k).getD i []).length = 128 := fun i hi => by
  rw [putB_get bl x k i hx]
  split
  · rw [List.length_append, List.length_take, List.length_drop, h i hi]; omega
  · exact h i hi
theorem flushK_blk {D : Dk} (h : D.Ok) : ∀ k, k ≤ D.waits.length → ∀ i, i < D.blks.length → ((flushK D k).getD i []).length = 128
  | 0, _ => h.blk
  | k + 1, hk => fun i hi => by
    obtain ⟨h1, h2⟩ := h.waitAt k (by omega)
    have hl := flushK_length D k
    unfold flushK
    exact putB_ok (fun i hi => flushK_blk h k (by omega) i (by omega)) (by omega) h2 (Nat.le_refl _) i (by omega)
theorem crashK_blk {D : Dk} (h : D.Ok) (keep : List Bool) (torn : Int) (cut : Nat) (hc : cut ≤ 128) : ∀ k, k ≤ D.waits.length → ∀ i, i < D.blks.length → ((crashK keep torn cut D k).getD i []).length = 128
  | 0, _ => h.blk
  | k + 1, hk => fun i hi => by
    obtain ⟨h1, h2⟩ := h.waitAt k (by omega)
    have hl := crashK_length keep torn cut D k
    have ih := crashK_blk h keep torn cut hc k (by omega)
    unfold crashK
    split
    · exact putB_ok (fun i hi => ih i (by omega)) (by omega) h2 hc i (by omega)
    · split
      · exact putB_ok (fun i hi => ih i (by omega)) (by omega) h2 (Nat.le_refl _) i (by omega)
      · exact ih i hi

/-- The operations. -/
def newD (n : Nat) : Dk := ⟨List.replicate n (List.replicate 128 0), [], -1, false⟩
def powered (D : Dk) : Dk := if D.left < 0 then D else if D.left = 0 then { D with left := -1, down := true } else { D with left := D.left - 1 }
def powerE (D : Dk) : Int := if D.left = 0 then 20 else 0
def mayE (D : Dk) : Int := if D.down = true then 20 else 0
def writeE (D : Dk) (a : Int) (m : Nat) : Int := if D.down = true then 20 else if a < 0 ∨ (D.blks.length : Int) ≤ a ∨ m ≠ 128 then 2 else powerE D
def written (D : Dk) (a : Int) (b : List UInt8) : Dk :=
  if D.down = true then D else if a < 0 ∨ (D.blks.length : Int) ≤ a ∨ b.length ≠ 128 then D else if D.left = 0 then powered D else { powered D with waits := D.waits ++ [(a.toNat, b)] }
def flushE (D : Dk) : Int := if D.down = true then 20 else powerE D
def flushed (D : Dk) : Dk := if D.down = true then D else if D.left = 0 then powered D else { powered D with blks := flushK D D.waits.length, waits := [] }
def armE (D : Dk) (n : Int) : Int := if D.down = true then 20 else if n < 0 then 2 else 0
def armed (D : Dk) (n : Int) : Dk := if D.down = true then D else if n < 0 then D else { D with left := n }
def crashE (cut : Int) : Int := if cut < 0 ∨ 128 < cut then 2 else 0
def crashed (D : Dk) (keep : List Bool) (torn cut : Int) : Dk := if cut < 0 ∨ 128 < cut then D else ⟨crashK keep torn cut.toNat D D.waits.length, [], -1, false⟩
def readE (D : Dk) (a : Int) : Int := if D.down = true then 20 else if a < 0 ∨ (D.blks.length : Int) ≤ a then 2 else 0
def readL (D : Dk) (a : Int) : List UInt8 := if D.down = true then [] else if a < 0 ∨ (D.blks.length : Int) ≤ a then [] else readB D a.toNat

theorem newD_ok (n : Nat) (h1 : 16 ≤ n) (h2 : n ≤ 4096) : (newD n).Ok := by
  refine ⟨fun i hi => ?_, fun x hx => ?_, by simpa [newD] using h1, by simpa [newD] using h2, by simp [newD], by simp [newD], by simp [newD]⟩
  · simp only [newD, List.length_replicate] at hi ⊢
    rw [List.getD_eq_getElem?_getD, List.getElem?_replicate, if_pos hi]
    simp
  · simp [newD] at hx
theorem powered_keeps (D : Dk) : (powered D).blks = D.blks ∧ (powered D).waits = D.waits := by unfold powered; split <;> (try split) <;> exact ⟨rfl, rfl⟩
theorem powered_ok {D : Dk} (h : D.Ok) : (powered D).Ok := by
  have hl := h.lo
  have hh := h.hi
  unfold powered
  split
  · exact h
  · split
    · exact ⟨h.blk, h.wait, h.pos, h.many, h.few, by simp, by simp⟩
    · exact ⟨h.blk, h.wait, h.pos, h.many, h.few, by simp; omega, by simp; omega⟩
theorem written_ok {D : Dk} (h : D.Ok) (a : Int) (b : List UInt8) (hf : D.waits.length < 1000) : (written D a b).Ok := by
  unfold written
  split
  · exact h
  split
  · exact h
  rename_i h1 h2
  split
  · exact powered_ok h
  · have hp := powered_ok h
    obtain ⟨e1, e2⟩ := powered_keeps D
    refine ⟨hp.blk, fun x hx => ?_, hp.pos, hp.many, by simp; omega, hp.lo, hp.hi⟩
    simp only [List.mem_append, List.mem_singleton] at hx
    show x.1 < (powered D).blks.length ∧ _
    rw [e1]
    rcases hx with hx | hx
    · exact h.wait x hx
    · subst hx
      simp only
      omega
theorem flushed_ok {D : Dk} (h : D.Ok) : (flushed D).Ok := by
  unfold flushed
  split
  · exact h
  split
  · exact powered_ok h
  · have hp := powered_ok h
    have hl := flushK_length D D.waits.length
    exact ⟨fun i hi => flushK_blk h _ (Nat.le_refl _) i (by simpa [hl] using hi), fun x hx => by simp at hx, by simpa [hl] using h.pos, by simpa [hl] using h.many, by simp, hp.lo, hp.hi⟩
theorem armed_ok {D : Dk} (h : D.Ok) (n : Int) (hn : n ≤ 9223372036854775807) : (armed D n).Ok := by
  unfold armed
  split
  · exact h
  split
  · exact h
  · exact ⟨h.blk, h.wait, h.pos, h.many, h.few, by simp; omega, hn⟩
theorem crashed_ok {D : Dk} (h : D.Ok) (keep : List Bool) (torn cut : Int) : (crashed D keep torn cut).Ok := by
  unfold crashed
  split
  · exact h
  · have hl := crashK_length keep torn cut.toNat D D.waits.length
    exact ⟨fun i hi => crashK_blk h keep torn _ (by omega) _ (Nat.le_refl _) i (by simpa [hl] using hi), fun x hx => by simp at hx, by simpa [hl] using h.pos, by simpa [hl] using h.many, by simp, by simp, by simp⟩
theorem readB_length {D : Dk} (h : D.Ok) (a : Nat) (ha : a < D.blks.length) : (readB D a).length = 128 := by
  unfold readB
  cases e : lastK D.waits a D.waits.length with
  | none => exact h.blk a ha
  | some i => exact (h.waitAt i (lastK_some e).1).2

/-- All blocks, one behind the other. -/
def flat (bl : List (List UInt8)) : List UInt8 := bl.flatten
theorem flat_length : ∀ (bl : List (List UInt8)), (∀ i, i < bl.length → (bl.getD i []).length = 128) → (flat bl).length = 128 * bl.length
  | [], _ => rfl
  | b :: bl, h => by
    have h0 := h 0 (by simp)
    have ih := flat_length bl fun i hi => by simpa using h (i + 1) (by simpa using hi)
    unfold flat at ih ⊢
    simp only [List.getD_cons_zero] at h0
    rw [List.flatten_cons, List.length_append, ih, h0, List.length_cons]
    omega
theorem flat_at : ∀ (bl : List (List UInt8)), (∀ i, i < bl.length → (bl.getD i []).length = 128) → ∀ a, a < bl.length → ((flat bl).drop (128 * a)).take 128 = bl.getD a []
  | [], _, a, ha => by simp at ha
  | b :: bl, h, 0, _ => by
    have h0 := h 0 (by simp)
    simp only [List.getD_cons_zero] at h0
    simp only [flat, List.flatten_cons, Nat.mul_zero, List.drop_zero, List.getD_cons_zero]
    rw [List.take_append_of_le_length (by omega), List.take_of_length_le (by omega)]
  | b :: bl, h, a + 1, ha => by
    have h0 := h 0 (by simp)
    simp only [List.getD_cons_zero] at h0
    have ih := flat_at bl (fun i hi => by simpa using h (i + 1) (by simpa using hi)) a (by simpa using ha)
    simp only [flat, List.flatten_cons, List.getD_cons_succ] at ih ⊢
    rw [← ih, show 128 * (a + 1) = b.length + 128 * a by omega, ← List.drop_drop, List.drop_left]
theorem flat_set : ∀ (bl : List (List UInt8)), (∀ i, i < bl.length → (bl.getD i []).length = 128) → ∀ a, a < bl.length → ∀ c : List UInt8, c.length = 128 → flat (bl.set a c) = (flat bl).take (128 * a) ++ c ++ (flat bl).drop (128 * a + 128)
  | [], _, a, ha, _, _ => by simp at ha
  | b :: bl, h, 0, _, c, hc => by
    have h0 := h 0 (by simp)
    simp only [List.getD_cons_zero] at h0
    simp only [flat, List.set_cons_zero, List.flatten_cons, Nat.mul_zero, List.take_zero, Nat.zero_add, List.nil_append]
    rw [← h0, List.drop_left]
  | b :: bl, h, a + 1, ha, c, hc => by
    have h0 := h 0 (by simp)
    simp only [List.getD_cons_zero] at h0
    have ih := flat_set bl (fun i hi => by simpa using h (i + 1) (by simpa using hi)) a (by simpa using ha) c hc
    simp only [flat, List.set_cons_succ, List.flatten_cons] at ih ⊢
    rw [ih, show 128 * (a + 1) = b.length + 128 * a by omega, List.take_length_add_append, show b.length + 128 * a + 128 = b.length + (128 * a + 128) by omega, List.drop_length_add_append]
    simp

end Go.Proofs.Ytdnhlpddnbholaa
