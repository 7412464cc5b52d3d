/-
  catchmentlow: Equal, Again, EqualPlaces, Filled.
-/
import Derived.Test.YtdnhlpddnbholaaDkJ
import Derived.Laws.BytesString
import Derived.Laws.IdiomStrings
namespace Go.Proofs.Ytdnhlpddnbholaa
open Go.RowKit
set_option linter.unusedVariables false
set_option linter.unusedSimpArgs false

theorem bdn (w : World) (k : Nat) : Below w.heap.size w (w.drewN k) := ⟨rfl, rfl, rfl, Nat.le_refl _, fun _ _ => rfl⟩

/-- Numbers as cells. -/
def icells (l : List Int) : List Value := l.map fun x => .int .i64 x

theorem icells_length (l : List Int) : (icells l).length = l.length := by simp [icells]

theorem icells_append (l k : List Int) : icells (l ++ k) = icells l ++ icells k := by simp [icells]

theorem icells_one (l : List Int) : ∀ u ∈ icells l, u.oneCell' = true := by
  intro u hu
  obtain ⟨_, _, rfl⟩ := List.mem_map.1 hu
  rfl

theorem icells_get {l : List Int} {j : Nat} (h : j < l.length) : (icells l)[j]'(by rw [icells_length]; exact h) = .int .i64 l[j] := by simp [icells]

/-- A slice that reads as the numbers l. -/
def ReadsI (w : World) (A : Option Addr) (n : Nat) (l : List Int) : Prop := l.length = n ∧ Cells w A (icells l)

theorem ReadsI.keep {w w' : World} {A : Option Addr} {n : Nat} {l : List Int} (h : ReadsI w A n l) (hb : Below w.heap.size w w') : ReadsI w' A n l := ⟨h.1, h.2.keep hb⟩

theorem ReadsI.nil (w : World) (A : Option Addr) : ReadsI w A 0 [] := ⟨rfl, Cells.nil _ _⟩

theorem ReadsI.get {w : World} {A : Option Addr} {n k : Nat} {l : List Int} (h : ReadsI w A n l) (hk : k < l.length) : ∃ b o, A = some ⟨b, o, none⟩ ∧ b < w.heap.size ∧ w.cell? ⟨b, o + k, none⟩ = some (.int .i64 l[k]) := by
  obtain ⟨b, o, e, hc⟩ := h.2 (by rw [icells_length]; omega)
  refine ⟨b, o, e, hc.lt, ?_⟩
  rw [hc.cell k (by rw [icells_length]; exact hk), icells_get hk]

def sameI (a b : List Int) : Bool := a == b

theorem sameI_iff {a b : List Int} : sameI a b = true ↔ a = b := by unfold sameI; simp

/-- Only draws. -/
def Quiet (w w' : World) : Prop := ∃ q, w' = w.drewN q

theorem Quiet.refl (w : World) : Quiet w w := ⟨0, rfl⟩

theorem Quiet.more {w w' : World} (h : Quiet w w') (k : Nat) : Quiet w (w'.drewN k) := by
  obtain ⟨q, rfl⟩ := h
  exact ⟨q + k, by simp [World.drewN, Nat.add_assoc]⟩

theorem Quiet.below {w w' : World} (h : Quiet w w') : Below w.heap.size w w' := by
  obtain ⟨q, rfl⟩ := h
  exact bdn _ _

set_option maxHeartbeats 1000000 in
theorem eqplaces_len (A B : Option Addr) (n m c d : Nat) (w : World) (hn : n ≤ maxLen) (hm : m ≤ maxLen) (h : n ≠ m) :
    Calls Try.prog 28 #[.slice A n c, .slice B m d] w fun e w' => e = .returned (.bool false) ∧ Quiet w w' := by
  have hq : ((n : Int) != (m : Int)) = true := by simp; omega
  clear h
  go_enter Try.func28, Try.ntmps28
  go_wp2
  go_ret
  exact ⟨rfl, Quiet.refl _⟩

set_option maxHeartbeats 1000000 in
theorem eqplaces_any (A B : Option Addr) (n m c d : Nat) (l k : List Int) (w : World) (h : ReadsI w A n l) (g : ReadsI w B m k) (hn : n ≤ maxLen) (hm : m ≤ maxLen) :
    Calls Try.prog 28 #[.slice A n c, .slice B m d] w fun e w' => e = .returned (.bool (sameI l k)) ∧ Quiet w w' := by
  by_cases hnm : n = m
  · subst hnm
    unfold maxLen at hn
    have hl := Lib.hid h.1
    have kl := Lib.hid g.1
    have HL := Lib.hid h; clear h
    have HK := Lib.hid g; clear g hm
    go_enter Try.func28, Try.ntmps28
    go_wp2
    go_loopw [5] (fun i wr => ∃ j : Nat, j ≤ n ∧ i = .int .i64 j ∧ Quiet w wr ∧ l.drop j = k.drop j) (fun i _ => (intOf i).toNat)
    case atStart => exact ⟨n, Nat.le_refl _, rfl, Quiet.refl _, by rw [List.drop_of_length_le (by have := hl.out; omega), List.drop_of_length_le (by have := kl.out; omega)]⟩
    case round =>
      obtain ⟨j, hj, rfl, hq, hd⟩ := hrel
      have HQ := Lib.hid hq
      have HD := Lib.hid hd; clear hd
      by_cases h0 : 0 < j
      · obtain ⟨i, rfl⟩ : ∃ i, j = i + 1 := ⟨j - 1, by omega⟩
        obtain ⟨b, o, rfl, hbl, hc⟩ := HL.out.get (k := i) (by have := hl.out; omega)
        obtain ⟨b2, o2, rfl, hbl2, hc2⟩ := HK.out.get (k := i) (by have := kl.out; omega)
        obtain ⟨x, hx⟩ : ∃ x, x = l[i]'(by have := hl.out; omega) := ⟨_, rfl⟩
        obtain ⟨y, hy⟩ : ∃ y, y = k[i]'(by have := kl.out; omega) := ⟨_, rfl⟩
        rw [← hx] at hc
        rw [← hy] at hc2
        have HX := Lib.hid hx; clear hx
        have HY := Lib.hid hy; clear hy
        have ed : ((i + 1 : Nat) : Int) - 1 = (i : Int) := by omega
        have i0 : (0 : Int) ≤ (i : Int) := by omega
        have i1 : (i : Int) < (n : Int) := by omega
        obtain ⟨q, rfl⟩ := hq
        by_cases hxy : x = y
        · have hb : (x != y) = false := by rw [hxy]; simp
          have HXY := Lib.hid hxy; clear hxy
          go_wp2
          go_quiet (fail)
          go_wp2
          go_roundw
          case rel =>
            refine ⟨i, by omega, vint (by omega), by first | exact HQ.out.more _ | exact ⟨_, rfl⟩, ?_⟩
            have e1 : l.drop i = l[i]'(by have := hl.out; omega) :: l.drop (i + 1) := (List.getElem_cons_drop ..).symm
            have e2 : k.drop i = k[i]'(by have := kl.out; omega) :: k.drop (i + 1) := (List.getElem_cons_drop ..).symm
            rw [e1, e2, ← HX.out, ← HY.out, HXY.out, HD.out]
          case measure => simp [intOf]
        · have hb : (x != y) = true := by
            simpa using hxy
          have HXY := Lib.hid hxy; clear hxy
          go_wp2
          go_quiet (fail)
          go_wp2
          go_ret
          refine ⟨?_, by first | exact HQ.out.more _ | exact ⟨_, rfl⟩⟩
          have e : sameI l k = false := by
            cases hs : sameI l k
            · rfl
            · exfalso
              have := sameI_iff.1 hs
              subst this
              exact HXY.out (by rw [HX.out, HY.out])
          rw [e]
          rfl
      · obtain rfl : j = 0 := by omega
        have e : sameI l k = true := sameI_iff.2 (by simpa using HD.out)
        go_wp2
        go_ret
        rw [e]
        exact ⟨rfl, HQ.out⟩
  · have hl := h.1
    have kl := g.1
    have e : sameI l k = false := by
      cases hs : sameI l k
      · rfl
      · have := sameI_iff.1 hs
        subst this
        exact absurd (hl.symm.trans kl) hnm
    rw [e]
    exact eqplaces_len A B n m c d w hn hm hnm

theorem intinfo : (Try.prog.info? 3).map (fun i => (i.zero, i.size, i.bytes)) = some (some (.int .i64 0), 1, 8) := by kernel_rfl

theorem own_readsI {w : World} {base n : Nat} {e : TypeId} {v : Value} {l : List Int} (h : w.ownsRow base e 1 v n (icells l)) : ∃ A c, v = .slice A n c ∧ ReadsI w A n l ∧ n ≤ c ∧ c ≤ maxLen := by
  have hl : l.length = n := by have := h.1; rw [icells_length] at this; omega
  rcases h.2 with ⟨rfl, h0⟩ | ⟨g, cap, cur, rfl, hg, hh, hn, hm, _⟩
  · have h0 : n = 0 := h0
    have : l = [] := List.eq_nil_of_length_eq_zero (by omega)
    subst this
    subst h0
    exact ⟨none, 0, rfl, ReadsI.nil _ _, Nat.le_refl _, by simp [maxLen]⟩
  · exact ⟨_, cap, rfl, ⟨hl, (MemC.of_ownC h).1.cells⟩, hn, hm⟩

theorem Addr.add_lit' (b o j : Nat) : (⟨b, o, none⟩ : Addr).add j = ⟨b, o + j, none⟩ := by unfold Addr.add; split <;> simp_all

/-- 'string(b)'. -/
theorem conv8 (A : Option Addr) (n c : Nat) (l : List UInt8) (w : World) (h : Reads8 w A n l) :
    (convert 37 9 (.slice A n c)).run Try.prog w = .ok (.string ⟨l.toArray⟩) w := by
  obtain ⟨hl, hc⟩ := h
  subst hl
  rcases Nat.eq_zero_or_pos l.length with h0 | h0
  · have e : l = [] := List.eq_nil_of_length_eq_zero h0
    subst e
    rw [run_convert_bytes_string w 37 9 5 A _ c Try.underlying37 Try.underlying5 Try.underlying9]
    cases A <;> simp [Conv.bytesToString, loadCells]
    all_goals rfl
  · obtain ⟨b, o, rfl, _, hcell⟩ := hc h0
    exact run_convert_bytes_back w _ _ _ _ c l Try.underlying37 Try.underlying5 Try.underlying9 (fun j hj => by rw [Addr.add_lit']; exact hcell j hj)

def same8 (a b : List UInt8) : Bool := a == b

theorem equal_any (A B : Option Addr) (n m c d : Nat) (l k : List UInt8) (w : World) (h : Reads8 w A n l) (g : Reads8 w B m k) :
    Calls Try.prog 24 #[.slice A n c, .slice B m d] w fun e w' => e = .returned (.bool (same8 l k)) ∧ w = w' := by
  have h1 := conv8 A n c l w h
  have h2 := conv8 B m d k w g
  clear h g
  go_enter Try.func24, Try.ntmps24
  go_wp2
  go_ret
  exact ⟨rfl, rfl⟩

theorem same8_iff {a b : List UInt8} : same8 a b = true ↔ a = b := by unfold same8; simp

theorem bytesRow_get (l : List UInt8) (cap j : Nat) (h : j < l.length) : (bytesRow ⟨l.toArray⟩ cap)[j]? = some (.int .u8 (l[j].toNat : Int)) := by
  unfold bytesRow
  rw [Array.getElem?_append_left (by simpa using h)]
  simp [h]

set_option maxHeartbeats 400000 in
theorem again_any (A : Option Addr) (n c : Nat) (l : List UInt8) (w : World) (h : Reads8 w A n l) (hn : n ≤ maxLen) :
    Calls Try.prog 22 #[.slice A n c] w fun e w' => ∃ v, e = .returned v ∧ Fresh8 w w' v l := by
  have h1 := conv8 A n c l w h
  have h2 := fun w s => run_bytes_of_string (P := Try.prog) w 9 37 5 s Try.underlying9 Try.underlying37 Try.underlying5
  go_enter Try.func22, Try.ntmps22
  have hcm := grownCap_le_maxLen w l.length 0 5 (by have := h.1; omega)
  have hcg := grownCap_ge w l.length 0 5
  go_wp2
  go_ret
  refine ⟨_, rfl, w.heap.size, _, rfl, Nat.le_refl _, hcg, hcm, ?_, ?_⟩
  · refine Mem8.drew (Mem8.of_blk (heap_alloc_new w _) rfl (fun j hj => ?_) (.inl ?_))
    · rw [Nat.zero_add]; exact bytesRow_get l _ j hj
    · simp [bytesRow]
  · exact ((Below.refl _ _).alloc (Nat.le_refl _) _).drew

theorem mem8_set {w : World} {b n : Nat} {l : List UInt8} (h : Mem8 w b 0 n l) (i : Nat) (x : UInt8) (hi : i < n) : Mem8 (w.setCell ⟨b, i, none⟩ (.int .u8 (x.toNat : Int))) b 0 n (l.set i x) := by
  have hl := h.len
  refine ⟨by simp [hl], by simpa [World.setCell] using h.lt, fun j hj => ?_, fun j hj => ?_⟩
  · have hj' : j < l.length := by simpa using hj
    rw [Nat.zero_add]
    have hc := h.cell j hj'
    rw [Nat.zero_add] at hc
    by_cases e : i = j
    · subst e
      rw [List.getElem_set_self]
      exact World.cell?_setCell_same' _ _ _ (by rw [hc]; rfl)
    · rw [List.getElem_set_ne e]
      exact (World.cell?_setCell_other w ⟨b, i, none⟩ ⟨b, j, none⟩ _ (fun e2 => by injection e2 with _ e3; exact e e3)).trans hc
  · rw [World.frozen?_setCell]
    exact h.free j (by simpa using hj)
attribute [local go_sem ↓] Go.wp_at_zero Go.wp_at_succ
set_option maxHeartbeats 1000000 in
theorem filled_any (x : UInt8) (w : World) : Calls Try.prog 19 #[.int .u8 (x.toNat : Int)] w fun e w' => ∃ g, e = .returned (.slice (some ⟨g, 0, none⟩) 128 128) ∧ w.heap.size ≤ g ∧ Mem8 w' g 0 128 (List.replicate 128 x) ∧ Below w.heap.size w w' := by
  obtain ⟨i0, hi, hz0, hz1, hz2⟩ := info_parts u8info
  go_enter Try.func19, Try.ntmps19
  go_wp2_with (at_make; refine wpList_make_full _ rfl _ _ 37 rfl w.heap.size 5 i0 (.int .u8 0) 1 Try.underlying37 hi hz0 hz1 .i64 .i64 _ _ 128 rfl rfl rfl rfl (by rw [hz2]; omega) (by simp only [maxLen]; omega) (Nat.le_refl _) ?_)
  intro w1 hown hgrow
  have hb1 : Below w.heap.size w w1 := (Below.refl _ _).grown hgrow (Nat.le_refl _) (by intro k hk; cases hk)
  rw [made_bytes] at hown
  have hm := (MemC.of_ownC hown).1.mem8
  rw [List.length_replicate] at hm
  clear hown hgrow hi hz0 hz1 hz2 i0
  have HB := Lib.hid hb1
  have HM := Lib.hid hm
  clear hb1 hm
  go_wp2_with fail
  go_loopw [4] (fun i wr => ∃ k : Nat, k ≤ 128 ∧ i = .int .i64 (k : Int) ∧ Mem8 wr w.heap.size 0 128 (List.replicate k x ++ List.replicate (128 - k) 0) ∧ Below w.heap.size w wr) (fun i _ => 128 - (intOf i).toNat)
  case atStart => exact ⟨0, Nat.zero_le _, rfl, HM.out, HB.out⟩
  case round =>
    obtain ⟨k, hk, rfl, hm, hb⟩ := hrel
    have KM := Lib.hid hm
    have KB := Lib.hid hb
    clear hm hb HM HB
    by_cases hlt : k < 128
    · have c0 := KM.out.cell k (by have := KM.out.len; omega)
      have f0 := KM.out.free k (by have := KM.out.len; omega)
      rw [Nat.zero_add] at c0 f0
      have k0 : (0 : Int) ≤ (k : Int) := Int.natCast_nonneg _
      have k1 : (k : Int) < 128 := by omega
      have e0 : (List.replicate k x ++ List.replicate (128 - k) 0).set k x = List.replicate (k + 1) x ++ List.replicate (128 - (k + 1)) 0 := by
        rw [List.set_append_right _ _ (by simp)]
        rw [List.length_replicate, Nat.sub_self, show 128 - k = (128 - (k + 1)) + 1 by omega, List.replicate_succ, List.set_cons_zero, List.replicate_succ']
        simp
      have E0 := Lib.hid e0
      clear e0
      obtain ⟨y, hy⟩ : ∃ y, y = (List.replicate k x ++ List.replicate (128 - k) 0)[k]'(by have := KM.out.len; omega) := ⟨_, rfl⟩
      rw [← hy] at c0
      clear hy
      go_wp2_with fail
      go_roundw
      case rel =>
        refine ⟨k + 1, by omega, by go_num, ?_, KB.out.setCell (p := ⟨w.heap.size, k, none⟩) (Nat.le_refl _) _⟩
        have h := mem8_set KM.out k x hlt
        rwa [E0.out] at h
      case measure => simp [intOf]; omega
    · obtain rfl : k = 128 := by omega
      rw [show ((128 : Nat) : Int) = 128 from rfl]
      go_wp2_with fail
      go_ret
      exact ⟨_, rfl, Nat.le_refl _, by simpa using KM.out, KB.out⟩

section
variable {F : Nat → Prop} {p q : Nat} {D : Dk}
theorem crash_any' (w : World) (h : DiskAt F w p q D) (K : Option Addr) (kn kc : Nat) (keep : List Bool) (torn cut : Int) (hkn : keep.length = kn) (hkk : kn ≤ maxLen) (hcs : Cells w K (kcells keep)) (hap : keep = [] ∨ Apart K q) :
    Calls Try.prog 11 #[.pointer (some ⟨p, 0, none⟩), .agg #[.slice K kn kc, .int .i64 torn, .int .i64 cut]] w fun e w' => e = .returned (.int .i64 (crashE cut)) ∧ DiskAt F w' p q (crashed D keep torn cut) ∧ Turn F w w' := by
  by_cases hc : cut < 0 ∨ 128 < cut
  · rw [show crashE cut = 2 by unfold crashE; rw [if_pos hc], show crashed D keep torn cut = D by unfold crashed; rw [if_pos hc]]
    refine (crash_bad w h K kn kc torn cut hc).mono ?_
    rintro e w' ⟨rfl, hb⟩
    exact ⟨rfl, h.keep hb, Turn.of_below hb⟩
  · rw [show crashE cut = 0 by unfold crashE; rw [if_neg hc], show crashed D keep torn cut = ⟨crashK keep torn cut.toNat D D.waits.length, [], -1, false⟩ by unfold crashed; rw [if_neg hc]]
    obtain ⟨n, rfl⟩ : ∃ n : Nat, cut = (n : Int) := ⟨cut.toNat, by omega⟩
    exact crash_yes' w h K kn kc keep torn n hkn hkk hcs hap (by omega)

theorem crash_any (w : World) (h : DiskAt F w p q D) (K : Option Addr) (kn kc : Nat) (keep : List Bool) (torn cut : Int) (hkn : keep.length = kn) (hkk : kn ≤ maxLen) (hcs : Cells w K (kcells keep)) (hap : Apart K q) :
    Calls Try.prog 11 #[.pointer (some ⟨p, 0, none⟩), .agg #[.slice K kn kc, .int .i64 torn, .int .i64 cut]] w fun e w' => e = .returned (.int .i64 (crashE cut)) ∧ DiskAt F w' p q (crashed D keep torn cut) ∧ Turn F w w' :=
  crash_any' w h K kn kc keep torn cut hkn hkk hcs (.inr hap)

/-- The places that wait. -/
def cachedL (D : Dk) : List Int := D.waits.map fun x => (x.1 : Int)

set_option maxRecDepth 100000 in
set_option maxHeartbeats 4000000 in
theorem cached_any (w : World) (h : DiskAt F w p q D) : Calls Try.prog 12 #[.pointer (some ⟨p, 0, none⟩)] w fun e w' => ∃ v, e = .returned v ∧ w'.ownsRow w.heap.size 3 1 v D.waits.length (icells (cachedL D)) ∧ Below w.heap.size w w' := by
  obtain ⟨c, v, h⟩ := h
  have D1 := Lib.hid h
  obtain ⟨A, d, rfl, _, hnd, hdm, hcells⟩ := h.slice
  have HC := Lib.hid hcells
  have hfew := h.ok.few
  obtain ⟨h1, _⟩ := h.head.get 1 _ rfl
  clear h hcells
  go_enter Try.func12, Try.ntmps12
  go_wp2_with fail
  clear h1
  go_loopw [3, 14] (fun o i wr => ∃ k : Nat, k ≤ D.waits.length ∧ i = .int .i64 (k : Int) ∧ wr.ownsRow w.heap.size 3 1 o k (icells ((cachedL D).take k)) ∧ Below w.heap.size w wr) (fun _ i _ => D.waits.length - (intOf i).toNat)
  case atStart => exact ⟨0, Nat.zero_le _, rfl, ⟨by simp [icells], .inl ⟨rfl, rfl⟩⟩, Below.refl _ _⟩
  case round =>
    obtain ⟨k, hk, rfl, hown, hb⟩ := hrel
    have HO := Lib.hid hown
    have HB := Lib.hid hb
    clear hown hb
    by_cases hlt : k < D.waits.length
    · obtain ⟨g, rfl, hmg0⟩ := HC.out (by omega)
      have hmg := hmg0.keep HB.out
      have hw128 : ∀ x ∈ D.waits, x.2.length = 128 := fun x hx => (D1.out.ok.wait x hx).2
      have hat := write_at hw128 hmg.at_ k hlt
      have hyl := getD_length hw128 k
      have htk : (cachedL D).take (k + 1) = (cachedL D).take k ++ [((D.waits.getD k nW).1 : Int)] := by
        unfold cachedL
        rw [List.take_add_one, List.getElem?_map, List.getElem?_eq_getElem hlt, List.getD_eq_getElem?_getD, List.getElem?_eq_getElem hlt]
        rfl
      obtain ⟨y, hy⟩ : ∃ y, D.waits.getD k nW = y := ⟨_, rfl⟩
      rw [hy] at hat hyl htk
      have HAT := Lib.hid hat
      have HTK := Lib.hid htk
      have k0 : (0 : Int) ≤ (k : Int) := by omega
      have k1 : (k : Int) < (D.waits.length : Int) := by omega
      have kw : IntKind.i64.wrap ((k : Int) + 1) = (k : Int) + 1 := IntWalk.i64_in _ (by omega)
      clear hmg hmg0 hw128 hat htk hy
      go_wp2_with (first | ((with_reducible refine wl_load (.tmp 16) ?_ ?_ g (k * 129) y hyl ?_ HAT.out ?_); rfl; rfl; rfl) | (refine wl_new 5 (.tmp 17) rfl rfl rfl (by rfl) y hyl rfl rfl (by rfl) ?_))
      intro w2 hb2 hm2 hs2
      obtain ⟨c0, _⟩ := hm2.get 0 _ (show (wcell y)[0]? = some (.int .i64 (y.1 : Int)) from rfl)
      have O2 := Lib.hid (own_keep HO.out hb2)
      have B2 := Lib.hid (HB.out.trans (hb2.mono HB.out.size))
      clear hb2 hm2 hs2 HO HB HAT
      go_wp2_with (at_builtin; refine wpList_appendC rfl _ _ 31 rfl w.heap.size 3 (.int .i64 0) 1 8 Try.underlying31 intinfo rfl (by omega) _ k (icells ((cachedL D).take k)) rfl (O2.out.alloc _) (some ⟨w2.heap.size, 0, none⟩) 1 1 (icells [(y.1 : Int)]) rfl rfl (MemC.new w2 _ 3).cells (icells_one _) (by simp only [maxLen]; omega) (by omega) (by have := B2.out.size; simp; omega) ?_)
      intro v' w3 hown' hgrow hnil hblk
      rw [← icells_append, ← HTK.out] at hown'
      have b3 : Below w.heap.size w w3 := (B2.out.alloc (by have := B2.out.size; omega) _).grown hgrow (by have := B2.out.size; simp; omega) (own_base O2.out)
      obtain ⟨g', cap', rfl⟩ := ownsRow_succ hown'
      have O3 := Lib.hid hown'
      have B3 := Lib.hid b3
      clear hown' hgrow hnil hblk b3 c0 O2 B2
      go_wp2_with fail
      go_roundw
      case rel => exact ⟨k + 1, by omega, by go_num, O3.out, B3.out⟩
      case measure => simp [intOf]; omega
    · obtain rfl : k = D.waits.length := by omega
      go_wp2_with fail
      go_ret
      refine ⟨_, rfl, ?_, HB.out⟩
      have := HO.out
      rwa [List.take_of_length_le (by simp [cachedL])] at this
end

end Go.Proofs.Ytdnhlpddnbholaa
