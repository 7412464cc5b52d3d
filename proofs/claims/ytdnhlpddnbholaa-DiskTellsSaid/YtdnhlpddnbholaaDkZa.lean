/-
  The document's disk: Read, Cached.
-/
import Derived.Test.YtdnhlpddnbholaaDkZ
namespace Go.Proofs.Ytdnhlpddnbholaa
open Go.RowKit
set_option linter.unusedVariables false
set_option linter.unusedSimpArgs false
attribute [local go_sem ↓] Go.wp_at_zero Go.wp_at_succ

section
variable {F : Nat → Prop} {r : Nat} {D : Dk} {C : List (Nat × List UInt8)}

/-- What the first k that wait say of a block. -/
def readK (D : Dk) (C : List (Nat × List UInt8)) (a k : Nat) : List UInt8 := match lastK D.waits a k with | some i => (D.waits.getD i nW).2 | none => standsL C a
theorem readK_succ (D : Dk) (C : List (Nat × List UInt8)) (a k : Nat) : readK D C a (k + 1) = if ((D.waits.getD k nW).1 : Int) = (a : Int) then (D.waits.getD k nW).2 else readK D C a k := by
  unfold readK
  show (match (if ((D.waits.getD k nW).1 : Int) = (a : Int) then some k else lastK D.waits a k) with | some i => (D.waits.getD i nW).2 | none => standsL C a) = _
  by_cases e : ((D.waits.getD k nW).1 : Int) = (a : Int)
  · rw [if_pos e, if_pos e]
  · rw [if_neg e, if_neg e]

set_option maxRecDepth 20000 in
set_option maxHeartbeats 1000000 in
theorem readref_yes (w : World) (h : RefAt F w r D C) (a : Nat) (hd : D.down = false) (ha : a < D.blks.length) : Calls Try.prog 38 #[.pointer (some ⟨r, 0, none⟩), .int .i64 (a : Int)] w fun e w' => e = .returned (.tuple #[.string ⟨(readB D a).toArray⟩, .int .i64 0]) ∧ Below w.heap.size w w' := by
  have HI := Lib.hid h
  obtain ⟨Ac, cc, Aw, wc, h⟩ := h
  obtain ⟨h0, _⟩ := h.head.get 0 _ rfl
  obtain ⟨h4, _⟩ := h.head.get 4 _ rfl
  rw [hd] at h4
  have a0 : ¬ (a : Int) < 0 := by omega
  have a1 : ¬ (D.blks.length : Int) ≤ (a : Int) := by omega
  have HH := Lib.hid h
  have hfew := h.ok.few
  have hrb : readB D a = readK D C a D.waits.length := by
    unfold readB readK
    rw [h.agree a ha]
    rfl
  obtain ⟨sl, hsl⟩ : ∃ sl, sl = readB D a := ⟨_, rfl⟩
  have HS : Hid (sl = readK D C a D.waits.length) := Lib.hid (by rw [hsl, hrb])
  rw [← hsl]
  clear hsl hrb h hd
  go_enter Try.func38, Try.ntmps38
  go_wp2_with fail
  refine (stands_any _ HI.out a).mono ?_
  rintro e w1 ⟨rfl, hb⟩
  have H1 := Lib.hid (HH.out.keep hb)
  have B1 := Lib.hid hb
  clear hb h0 h4 HI HH a0 a1
  obtain ⟨h2, _⟩ := H1.out.head.get 2 _ rfl
  go_wp2_with fail
  go_loopw [6, 7] (fun s i wr => ∃ k : Nat, k ≤ D.waits.length ∧ i = .int .i64 (k : Int) ∧ s = .string ⟨(readK D C a k).toArray⟩ ∧ w1 = wr) (fun _ i _ => D.waits.length - (intOf i).toNat)
  case atStart => exact ⟨0, Nat.zero_le _, rfl, rfl, rfl⟩
  case round =>
    obtain ⟨k, hk, rfl, rfl, rfl⟩ := hrel
    by_cases hlt : k < D.waits.length
    · have k0 : (0 : Int) ≤ (k : Int) := by omega
      have k1 : (k : Int) < (D.waits.length : Int) := by omega
      have kw : IntKind.i64.wrap ((k : Int) + 1) = (k : Int) + 1 := IntWalk.i64_in _ (by omega)
      obtain ⟨b, o, rfl, hb, c0, c1⟩ := H1.out.waits.wait (k := k) hlt
      have HL2 := Lib.hid (readK_succ D C a k)
      obtain ⟨x, hx⟩ : ∃ x, D.waits.getD k nW = x := ⟨_, rfl⟩
      rw [hx] at c0 c1 HL2
      clear hx hb
      by_cases he : (x.1 : Int) = (a : Int)
      · have hq : ((x.1 : Int) == (a : Int)) = true := by simpa using he
        have HR : Hid (readK D C a (k + 1) = x.2) := Lib.hid (by rw [HL2.out, if_pos he])
        clear he
        go_wp2_with fail
        go_roundw
        case rel => exact ⟨k + 1, by omega, by go_num, by rw [HR.out], trivial⟩
        case measure => simp [intOf]; omega
      · have hq : ((x.1 : Int) == (a : Int)) = false := by simpa using he
        have HR : Hid (readK D C a (k + 1) = readK D C a k) := Lib.hid (by rw [HL2.out, if_neg he])
        clear he
        go_wp2_with fail
        go_roundw
        case rel => exact ⟨k + 1, by omega, by go_num, by rw [HR.out], trivial⟩
        case measure => simp [intOf]; omega
    · obtain rfl : k = D.waits.length := by omega
      go_wp2_with fail
      go_ret2
      exact ⟨by rw [HS.out]; rfl, B1.out⟩

theorem readref_no (w : World) (h : RefAt F w r D C) (a : Int) (hn : D.down = true ∨ a < 0 ∨ (D.blks.length : Int) ≤ a) : Calls Try.prog 38 #[.pointer (some ⟨r, 0, none⟩), .int .i64 a] w fun e w' => e = .returned (.tuple #[.string ⟨#[]⟩, .int .i64 (readE D a)]) ∧ w = w' := by
  obtain ⟨Ac, cc, Aw, wc, h⟩ := h
  obtain ⟨h0, _⟩ := h.head.get 0 _ rfl
  obtain ⟨h4, _⟩ := h.head.get 4 _ rfl
  clear h
  unfold readE
  cases hd : D.down
  · rw [hd] at h4
    have hn2 : a < 0 ∨ (D.blks.length : Int) ≤ a := by rcases hn with h | h; rw [hd] at h; cases h; exact h
    rw [if_neg (by decide), if_pos hn2]
    clear hn hd
    by_cases ha : a < 0
    · clear hn2
      go_enter Try.func38, Try.ntmps38
      go_wp2
      go_ret2
      exact ⟨rfl, rfl⟩
    · have ha2 : (D.blks.length : Int) ≤ a := by omega
      clear hn2
      go_enter Try.func38, Try.ntmps38
      go_wp2
      go_ret2
      exact ⟨rfl, rfl⟩
  · rw [hd] at h4
    rw [if_pos rfl]
    clear hn hd
    go_enter Try.func38, Try.ntmps38
    go_wp2
    go_ret2
    exact ⟨rfl, rfl⟩

theorem readref_any (w : World) (h : RefAt F w r D C) (a : Int) : Calls Try.prog 38 #[.pointer (some ⟨r, 0, none⟩), .int .i64 a] w fun e w' => e = .returned (.tuple #[.string ⟨(readL D a).toArray⟩, .int .i64 (readE D a)]) ∧ Below w.heap.size w w' := by
  by_cases hn : D.down = true ∨ a < 0 ∨ (D.blks.length : Int) ≤ a
  · have e : readL D a = [] := by
      unfold readL
      split
      · rfl
      · split
        · rfl
        · rename_i h1 h2
          exact absurd hn (by rintro (h | h); exact h1 h; exact h2 h)
    rw [e]
    refine (readref_no w h a hn).mono ?_
    rintro _ w' ⟨rfl, rfl⟩
    exact ⟨rfl, Below.refl _ _⟩
  · obtain ⟨k, rfl⟩ : ∃ k : Nat, a = (k : Int) := ⟨a.toNat, by omega⟩
    have hd : D.down = false := by cases h : D.down; rfl; exact absurd (.inl h) hn
    have e1 : readL D (k : Int) = readB D k := by unfold readL; rw [hd, if_neg (by decide), if_neg (by omega)]; rfl
    have e2 : readE D (k : Int) = 0 := by unfold readE; rw [hd, if_neg (by decide), if_neg (by omega)]
    rw [e1, e2]
    exact readref_yes w h k hd (by omega)

set_option maxRecDepth 100000 in
set_option maxHeartbeats 4000000 in
theorem cachedref_any (w : World) (h : RefAt F w r D C) : Calls Try.prog 39 #[.pointer (some ⟨r, 0, none⟩)] w fun e w' => ∃ v, e = .returned v ∧ w'.ownsRow w.heap.size 3 1 v D.waits.length (icells (cachedL D)) ∧ Below w.heap.size w w' := by
  obtain ⟨Ac, cc, Aw, wc, h⟩ := h
  have HI := Lib.hid h
  have hfew := h.ok.few
  obtain ⟨h2, _⟩ := h.head.get 2 _ rfl
  clear h
  go_enter Try.func39, Try.ntmps39
  go_wp2_with fail
  go_loopw [3, 4] (fun o i wr => ∃ k : Nat, k ≤ D.waits.length ∧ i = .int .i64 (k : Int) ∧ wr.ownsRow w.heap.size 3 1 o k (icells ((cachedL D).take k)) ∧ Below w.heap.size w wr) (fun _ i _ => D.waits.length - (intOf i).toNat)
  case atStart => exact ⟨0, Nat.zero_le _, rfl, ⟨by simp [icells], .inl ⟨rfl, rfl⟩⟩, Below.refl _ _⟩
  case round =>
    obtain ⟨k, hk, rfl, hown, hb⟩ := hrel
    have HO := Lib.hid hown
    have HB := Lib.hid hb
    have HR := Lib.hid (HI.out.keep hb)
    clear hown hb
    obtain ⟨h2b, _⟩ := HR.out.head.get 2 _ rfl
    clear h2
    by_cases hlt : k < D.waits.length
    · obtain ⟨b, o, rfl, hb, c0, c1⟩ := HR.out.waits.wait (k := k) hlt
      have htk : (cachedL D).take (k + 1) = (cachedL D).take k ++ [((D.waits.getD k nW).1 : Int)] := by
        unfold cachedL
        rw [List.take_add_one, List.getElem?_map, List.getElem?_eq_getElem hlt, List.getD_eq_getElem?_getD, List.getElem?_eq_getElem hlt]
        rfl
      obtain ⟨y, hy⟩ : ∃ y, D.waits.getD k nW = y := ⟨_, rfl⟩
      rw [hy] at c0 c1 htk
      have HTK := Lib.hid htk
      have k0 : (0 : Int) ≤ (k : Int) := by omega
      have k1 : (k : Int) < (D.waits.length : Int) := by omega
      have kw : IntKind.i64.wrap ((k : Int) + 1) = (k : Int) + 1 := IntWalk.i64_in _ (by omega)
      clear htk hy c1
      go_wp2_with (at_builtin; refine wpList_appendC rfl _ _ 31 rfl w.heap.size 3 (.int .i64 0) 1 8 Try.underlying31 intinfo rfl (by omega) _ k (icells ((cachedL D).take k)) rfl (HO.out.alloc _) (some ⟨wr.heap.size, 0, none⟩) 1 1 (icells [(y.1 : Int)]) rfl rfl (MemC.new wr _ 3).cells (icells_one _) (by simp only [maxLen]; omega) (by omega) (by have := HB.out.size; simp; omega) ?_)
      intro v' w3 hown' hgrow hnil hblk
      rw [← icells_append, ← HTK.out] at hown'
      have b3 : Below w.heap.size w w3 := (HB.out.alloc (by have := HB.out.size; omega) _).grown hgrow (by have := HB.out.size; simp; omega) (own_base HO.out)
      obtain ⟨g', cap', rfl⟩ := ownsRow_succ hown'
      have O3 := Lib.hid hown'
      have B3 := Lib.hid b3
      clear hown' hgrow hnil hblk b3 c0 HR
      go_wp2_with fail
      go_roundw
      case rel => exact ⟨k + 1, by omega, by go_num, O3.out, B3.out⟩
      case measure => simp [intOf]; omega
    · obtain rfl : k = D.waits.length := by omega
      go_wp2_with fail
      go_ret
      refine ⟨_, rfl, ?_, HB.out⟩
      have := HO.out
      rwa [List.take_of_length_le (by simp [cachedL])] at this
end

end Go.Proofs.Ytdnhlpddnbholaa
