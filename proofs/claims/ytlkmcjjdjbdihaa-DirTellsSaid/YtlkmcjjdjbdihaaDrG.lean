/-
  slices.Clone; dir.told with its two functions; Double, Halve.
-/
import Derived.Test.YtlkmcjjdjbdihaaDrF
namespace Go.Proofs.Ytlkmcjjdjbdihaa
open Go.RowKit Go.Maps
set_option linter.unusedVariables false
attribute [local go_sem ↓] Go.wp_at_zero Go.wp_at_succ

/-- New memory that reads as the words l. -/
def FreshW (w w' : World) (v : Value) (l : List UInt16) : Prop := ∃ g c, v = .slice (some ⟨g, 0, none⟩) l.length c ∧ w.heap.size ≤ g ∧ MemC w' g 0 (wcells l) ∧ l.length ≤ c ∧ c ≤ maxLen ∧ Below w.heap.size w w'

theorem MemC.readsW {w : World} {g : Nat} {l : List UInt16} (h : MemC w g 0 (wcells l)) : ReadsW w (some ⟨g, 0, none⟩) l.length l := ⟨rfl, h.cells⟩

set_option maxHeartbeats 1000000 in
theorem clone_any (A : Option Addr) (n c : Nat) (l : List UInt16) (w : World) (h : ReadsW w A n l) (h0 : 0 < n) (hn : n ≤ 256) :
    Calls Try.prog 37 #[.slice A n c] w fun e w' => ∃ v, e = .returned v ∧ FreshW w w' v l := by
  have hl := Lib.hid h.1
  obtain ⟨b, o, rfl, _, _⟩ := h.getD (k := 0) h0
  have HR := Lib.hid h; clear h
  have heq : ∀ w : World, (binOp .eql 22 (.slice (some ⟨b, o, none⟩) n c) (.slice none 0 0)).run Try.prog w = .ok (.bool false) w := fun _ => by kernel_rfl
  go_enter Try.func37, Try.ntmps37
  go_wp2_with (at_builtin; refine wpList_appendC rfl _ _ 22 rfl w.heap.size 26 (.int .u16 0) 1 2 Try.underlying22 u16info rfl (by omega) _ 0 [] rfl (World.ownsRow_lit w #[] 0 (Nat.le_refl _) (Nat.zero_le _) rfl) (some ⟨b, o, none⟩) n c (wcells l) rfl (by rw [wcells_length, hl.out]; omega) (HR.out.2.keep ((Below.refl _ _).alloc (Nat.le_refl _) _)) (wcells_one _) (by simp only [maxLen]; omega) (by omega) (by simp) ?_)
  intro v w1 hown hgrow hnil hat
  have hb : Below w.heap.size w w1 := ((Below.refl _ _).alloc (Nat.le_refl _) _).grown hgrow (by simp) (by intro k hk; simp [Value.ownBlock] at hk; omega)
  obtain ⟨A1, c1, rfl, r1, hc1, hm1⟩ := own_readsW (l := l) hown
  have hfr : FreshW w w1 (.slice A1 (0 + n) c1) l := by
    rcases hown.2 with ⟨_, h1⟩ | ⟨g, cap, cur, e1, hg, hh, hn1, hm2, _⟩
    · omega
    · injection e1 with e1 e2 e3
      subst e1
      subst e3
      have h2 := MemC.of_ownC hown
      exact ⟨g, c1, by rw [hl.out, Nat.zero_add], hg, h2.1, by rw [hl.out]; omega, hm1, hb⟩
  rw [Nat.zero_add] at hfr
  have HF := Lib.hid hfr
  clear hown hgrow hnil hat hb r1 hfr hc1 hm1
  go_wp2_with fail
  go_ret
  exact ⟨_, rfl, HF.out⟩

theorem clos_double (A : Option Addr) (n c : Nat) (l : List UInt16) (B i : Nat) (w : World) (hB : w.cell? ⟨B, 1, none⟩ = some (.slice A n c)) (h : ReadsW w A n l) (hi : i / 2 < n) (hi9 : i ≤ 1024) :
    Calls Try.prog 41 #[.int .i64 (i : Int), .pointer (some ⟨B, 0, none⟩)] w fun e w' => e = .returned (.int .u16 ((at_ l (i / 2)).toNat : Int)) ∧ w = w' := by
  obtain ⟨b, o, rfl, hb, hc⟩ := h.getD hi
  generalize (at_ l (i / 2)).toNat = x at *
  obtain ⟨q, hq⟩ : ∃ q, q = i / 2 := ⟨_, rfl⟩
  rw [← hq] at hc hi
  have hd : (i : Int) / 2 = (q : Int) := by omega
  have hlt : (q : Int) < (n : Int) := by omega
  have h0 : (0 : Int) ≤ (q : Int) := by omega
  have hw : wrap64 (q : Int) = (q : Int) := by simp only [wrap64]; omega
  clear h hq hi hi9
  go_enter Try.func41, Try.ntmps41
  go_wp2
  go_ret
  exact ⟨rfl, rfl⟩

theorem clos_halve (A : Option Addr) (n c : Nat) (l : List UInt16) (B i : Nat) (w : World) (hB : w.cell? ⟨B, 1, none⟩ = some (.slice A n c)) (h : ReadsW w A n l) (hi : 2 * i < n) (hi9 : i ≤ 1024) :
    Calls Try.prog 44 #[.int .i64 (i : Int), .pointer (some ⟨B, 0, none⟩)] w fun e w' => e = .returned (.int .u16 ((at_ l (2 * i)).toNat : Int)) ∧ w = w' := by
  obtain ⟨b, o, rfl, hb, hc⟩ := h.getD hi
  generalize (at_ l (2 * i)).toNat = x at *
  have hlt : 2 * (i : Int) < (n : Int) := by omega
  have h0 : (0 : Int) ≤ 2 * (i : Int) := by omega
  have ht : (2 * (i : Int)).toNat = 2 * i := by omega
  have hw : IntKind.i64.wrap (2 * (i : Int)) = 2 * (i : Int) := IntWalk.i64_in _ (by omega)
  clear h
  go_enter Try.func44, Try.ntmps44
  go_wp2
  go_ret
  exact ⟨rfl, rfl⟩

def toldL (f : Nat → UInt16) (m : Nat) : List UInt16 := (List.range m).map f
theorem toldL_length (f : Nat → UInt16) (m : Nat) : (toldL f m).length = m := by simp [toldL]
theorem toldL_succ (f : Nat → UInt16) (m : Nat) : toldL f (m + 1) = toldL f m ++ [f m] := by simp [toldL, List.range_succ]
theorem set_told (a : List UInt16) (j : Nat) (x : UInt16) : (wcells (a ++ List.replicate (j + 1) 0)).set a.length (.int .u16 (x.toNat : Int)) = wcells (a ++ [x] ++ List.replicate j 0) := by
  rw [List.replicate_succ, wcells_append, wcells_append, wcells_append, List.set_append_right _ _ (by rw [wcells_length]; exact Nat.le_refl _), wcells_length, Nat.sub_self, List.append_assoc]
  rfl
theorem wlist_made {w : World} {g n : Nat} {e : TypeId} {base : Nat} (h : w.ownsRow base e 1 (.slice (some ⟨g, 0, none⟩) n n) n (madeCells #[Value.int .u16 0] n).toList) : MemC w g 0 (wcells (List.replicate n 0)) := by
  have e1 : (madeCells #[Value.int .u16 0] n).toList = wcells (List.replicate n 0) := by
    rw [toList_madeCells_one]
    simp [wcells]
  rw [e1] at h
  exact (MemC.of_ownC h).1

set_option maxHeartbeats 2000000 in
set_option maxRecDepth 100000 in
theorem told_double (d : Dir) (A : Option Addr) (n c B D : Nat) (w : World) (h : BoxD w B d A n c) (hD : D ≤ 8) (hi : ∀ i, i < 2 ^ D → i / 2 < n) :
    Calls Try.prog 40 #[.int .u8 (D : Int), .func (.func 41) #[] #[.pointer (some ⟨B, 0, none⟩)]] w fun e w' => ∃ v, e = .returned (.agg #[.int .u8 (D : Int), v]) ∧ FreshW w w' v (toldL (fun i => at_ d.slots (i / 2)) (2 ^ D)) := by
  have hp8 := pow_le8 hD
  have hsh := shl1 hD
  obtain ⟨m, hm⟩ : ∃ m, m = 2 ^ D := ⟨_, rfl⟩
  rw [← hm] at hp8 hsh hi ⊢
  have HI := Lib.hid hi; clear hi
  have HX := Lib.hid h; clear h
  obtain ⟨i0, hinf, hz0, hz1, hz2⟩ := info_parts u16info
  obtain ⟨W0, hW0⟩ : ∃ W0 : World, W0 = w.alloc (.cells #[.int .u8 0, .slice none 0 0] 24) := ⟨_, rfl⟩
  have b0 : Below w.heap.size w W0 := by rw [hW0]; exact (Below.refl _ w).alloc (Nat.le_refl _) _
  have q0 : MemC W0 w.heap.size 0 [.int .u8 0, .slice none 0 0] := by rw [hW0]; exact MemC.new w [.int .u8 0, .slice none 0 0] 24
  have B0 := Lib.hid b0
  have Q0 := Lib.hid q0
  have X0 := Lib.hid (HX.out.keep b0)
  have HW := Lib.hid hW0
  clear b0 q0 hW0
  have hm0 : (0 : Int) ≤ (m : Int) := by omega
  clear hm
  go_enter Try.func40, Try.ntmps40
  go_upto_region 1 with fail
  rw [← HW.out]
  clear HW
  go_wp2_with (at_make; (refine wpList_make_full _ rfl _ _ 22 rfl W0.heap.size 26 i0 (.int .u16 0) 1 Try.underlying22 hinf hz0 hz1 .i64 .i64 _ _ m rfl rfl (by first | rfl | exact hsh) (by first | rfl | exact hsh) (by rw [hz2]; omega) (by simp only [maxLen]; omega) (Nat.le_refl _) ?_))
  intro w1 hown hgrow
  have hb1 : Below W0.heap.size W0 w1 := (Below.refl _ _).grown hgrow (Nat.le_refl _) (by intro k hk; cases hk)
  have hmem := wlist_made hown
  have hlt1 := hmem.at_.lt
  obtain ⟨W2, hW2⟩ : ∃ W2 : World, W2 = w1.alloc (.cells #[.int .u8 (D : Int), .slice (some ⟨W0.heap.size, 0, none⟩) m m] 24) := ⟨_, rfl⟩
  have b2 : Below w1.heap.size w1 W2 := by rw [hW2]; exact (Below.refl _ _).alloc (Nat.le_refl _) _
  have O2 : Hid (MemC W2 w1.heap.size 0 [.int .u8 (D : Int), .slice (some ⟨W0.heap.size, 0, none⟩) m m]) := Lib.hid (by rw [hW2]; exact MemC.new w1 [.int .u8 (D : Int), .slice (some ⟨W0.heap.size, 0, none⟩) m m] 24)
  have B2 := Lib.hid (B0.out.trans ((hb1.trans (b2.mono hb1.size)).mono B0.out.size))
  have X2 := Lib.hid ((X0.out.keep hb1).keep b2)
  have Q2 := Lib.hid ((Q0.out.keep hb1).keep b2)
  have M2 := Lib.hid (hmem.keep b2)
  have Z2 : Hid (w.heap.size < W0.heap.size ∧ W0.heap.size < w1.heap.size ∧ w1.heap.size < W2.heap.size ∧ B < w.heap.size) := Lib.hid ⟨Q0.out.at_.lt, hlt1, O2.out.at_.lt, HX.out.mem.at_.lt⟩
  have hA2 : Hid (0 < m → ∀ a, A = some a → a.block < w.heap.size) := Lib.hid (fun h0 a ha => by
    by_cases hn0 : 0 < n
    · obtain ⟨b, o, e, hb, _⟩ := HX.out.rd.getD (k := 0) hn0
      rw [ha] at e
      injection e with e
      subst e
      exact hb
    · exfalso
      have h1 := HI.out 0 h0
      omega)
  have HW2 := Lib.hid hW2
  clear hown hgrow hb1 hmem b2 hW2 X0 Q0 B0 hinf hz0 hz1 hz2 i0
  go_upto_region 2 with fail
  rw [← HW2.out]
  clear HW2
  obtain ⟨o1, _⟩ := O2.out.get 1 _ rfl
  go_wp2_with fail
  clear o1
  go_loopw [15] (fun i wr => ∃ k : Nat, k ≤ m ∧ i = .int .i64 (k : Int) ∧ MemC wr W0.heap.size 0 (wcells (toldL (fun i => at_ d.slots (i / 2)) k ++ List.replicate (m - k) 0)) ∧ Only W2 wr W0.heap.size W0.heap.size) (fun i _ => m - (intOf i).toNat)
  case atStart => exact ⟨0, Nat.zero_le _, rfl, M2.out, ⟨rfl, rfl, rfl, rfl, fun _ _ _ => rfl⟩⟩
  case round =>
    obtain ⟨k, hk, rfl, hmem, ho⟩ := hrel
    have HM := Lib.hid hmem; clear hmem
    have HO := Lib.hid ho; clear ho
    obtain ⟨o1, _⟩ := (O2.out.only HO.out (by have := Z2.out; omega) (by have := Z2.out; omega)).get 1 _ rfl
    by_cases hlt : k < m
    · have k0 : (0 : Int) ≤ (k : Int) := by omega
      have k1 : (k : Int) < (m : Int) := by omega
      have hxm := X2.out.mem.only HO.out (by have := Z2.out; omega) (by have := Z2.out; omega)
      have hxr : ReadsW wr A n d.slots := ⟨X2.out.rd.1, fun h0 => by
        obtain ⟨b, o, e, hc⟩ := X2.out.rd.2 h0
        have hbl := hA2.out (by omega) _ e
        have hbl : b < w.heap.size := hbl
        have hz := Z2.out
        exact ⟨b, o, e, by rw [HO.out.size]; exact hc.lt, fun j hj => (HO.out.cell (by omega) (by omega)).trans (hc.cell j hj)⟩⟩
      have HXR := Lib.hid hxr
      have HXC := Lib.hid (hxm.get 1 _ rfl).1
      have hlen : (wcells (toldL (fun i => at_ d.slots (i / 2)) k ++ List.replicate (m - k) 0)).length = m := by rw [wcells_length, List.length_append, toldL_length, List.length_replicate]; omega
      obtain ⟨y, cy, fy⟩ : ∃ y, wr.cell? ⟨W0.heap.size, k, none⟩ = some y ∧ wr.frozen? ⟨W0.heap.size, k, none⟩ = false := ⟨_, HM.out.get k _ (List.getElem?_eq_getElem (by rw [hlen]; exact hlt))⟩
      have HLN := Lib.hid hlen
      have hk9 : k ≤ 1024 := by omega
      clear hxm hxr hlen
      go_wp2_with fail
      go_region_law ((go_simp; go_at_call 41; (with_reducible refine (clos_double A n c d.slots B k _ ?_ ?_ ?_ ?_).mono ?_); exact HXC.out; exact HXR.out.keep (Below.refl _ _).drew; exact HI.out k hlt; exact hk9; rintro e w' ⟨rfl, rfl⟩))
      all_goals
        have e5 : (wcells (toldL (fun i => at_ d.slots (i / 2)) k ++ List.replicate (m - k) 0)).set k (.int .u16 ((at_ d.slots (k / 2)).toNat : Int)) = wcells (toldL (fun i => at_ d.slots (i / 2)) (k + 1) ++ List.replicate (m - (k + 1)) 0) := by
          have := set_told (toldL (fun i => at_ d.slots (i / 2)) k) (m - (k + 1)) (at_ d.slots (k / 2))
          rw [toldL_length, show m - (k + 1) + 1 = m - k by omega] at this
          rw [this, toldL_succ]
        have hm5 := (HM.out.drew).setAt k (by rw [HLN.out]; exact hlt) (.int .u16 ((at_ d.slots (k / 2)).toNat : Int))
        rw [e5] at hm5
        have HM5 := Lib.hid hm5
        have HO5 := Lib.hid (HO.out.trans (Only.of_drew (Only.set wr.drew W0.heap.size W0.heap.size k (.int .u16 ((at_ d.slots (k / 2)).toNat : Int)))))
        clear hm5 e5 cy fy
        go_wp2_with fail
        go_roundw
        case rel => exact ⟨k + 1, by omega, by go_num, HM5.out, HO5.out⟩
        case measure => simp [intOf]; omega
    · obtain rfl : k = m := by omega
      obtain ⟨o0, _⟩ := (O2.out.only HO.out (by have := Z2.out; omega) (by have := Z2.out; omega)).get 0 _ rfl
      obtain ⟨q0, _⟩ := (Q2.out.only HO.out (by have := Z2.out; omega) (by have := Z2.out; omega)).get 0 _ rfl
      obtain ⟨q1, _⟩ := (Q2.out.only HO.out (by have := Z2.out; omega) (by have := Z2.out; omega)).get 1 _ rfl
      have k1 : ¬ (k : Int) < (k : Int) := by omega
      have hfin : FreshW w ((wr.setCell ⟨w.heap.size, 0, none⟩ (.int .u8 (D : Int))).setCell ⟨w.heap.size, 1, none⟩ (.slice (some ⟨W0.heap.size, 0, none⟩) k k)) (.slice (some ⟨W0.heap.size, 0, none⟩) k k) (toldL (fun i => at_ d.slots (i / 2)) k) := by
        have hmm := HM.out
        rw [Nat.sub_self, List.replicate_zero, List.append_nil] at hmm
        have hne : W0.heap.size ≠ w.heap.size := by have := Z2.out; omega
        have ho2 := (Only.set wr w.heap.size w.heap.size 0 (.int .u8 (D : Int))).trans (Only.set _ w.heap.size w.heap.size 1 (.slice (some ⟨W0.heap.size, 0, none⟩) k k))
        refine ⟨W0.heap.size, k, by rw [toldL_length], Nat.le_of_lt Z2.out.1, hmm.only ho2 hne hne, by rw [toldL_length]; exact Nat.le_refl _, by simp only [maxLen]; omega, ?_⟩
        exact (B2.out.trans (HO.out.below (Nat.le_of_lt Z2.out.1) (Nat.le_of_lt Z2.out.1))).trans (ho2.below (Nat.le_refl _) (Nat.le_refl _))
      have HFN := Lib.hid hfin
      clear hfin
      go_wp2_with fail
      exact bodyPost_ret (v := .agg #[.int .u8 (D : Int), .slice (some ⟨W0.heap.size, 0, none⟩) k k]) (by simp [results, Try.results40, go_sem, q0, q1]) rfl ⟨_, rfl, HFN.out⟩

set_option maxHeartbeats 2000000 in
set_option maxRecDepth 100000 in
theorem told_halve (d : Dir) (A : Option Addr) (n c B D : Nat) (w : World) (h : BoxD w B d A n c) (hD : D ≤ 8) (hi : ∀ i, i < 2 ^ D → 2 * i < n) :
    Calls Try.prog 40 #[.int .u8 (D : Int), .func (.func 44) #[] #[.pointer (some ⟨B, 0, none⟩)]] w fun e w' => ∃ v, e = .returned (.agg #[.int .u8 (D : Int), v]) ∧ FreshW w w' v (toldL (fun i => at_ d.slots (2 * i)) (2 ^ D)) := by
  have hp8 := pow_le8 hD
  have hsh := shl1 hD
  obtain ⟨m, hm⟩ : ∃ m, m = 2 ^ D := ⟨_, rfl⟩
  rw [← hm] at hp8 hsh hi ⊢
  have HI := Lib.hid hi; clear hi
  have HX := Lib.hid h; clear h
  obtain ⟨i0, hinf, hz0, hz1, hz2⟩ := info_parts u16info
  obtain ⟨W0, hW0⟩ : ∃ W0 : World, W0 = w.alloc (.cells #[.int .u8 0, .slice none 0 0] 24) := ⟨_, rfl⟩
  have b0 : Below w.heap.size w W0 := by rw [hW0]; exact (Below.refl _ w).alloc (Nat.le_refl _) _
  have q0 : MemC W0 w.heap.size 0 [.int .u8 0, .slice none 0 0] := by rw [hW0]; exact MemC.new w [.int .u8 0, .slice none 0 0] 24
  have B0 := Lib.hid b0
  have Q0 := Lib.hid q0
  have X0 := Lib.hid (HX.out.keep b0)
  have HW := Lib.hid hW0
  clear b0 q0 hW0
  have hm0 : (0 : Int) ≤ (m : Int) := by omega
  clear hm
  go_enter Try.func40, Try.ntmps40
  go_upto_region 1 with fail
  rw [← HW.out]
  clear HW
  go_wp2_with (at_make; (refine wpList_make_full _ rfl _ _ 22 rfl W0.heap.size 26 i0 (.int .u16 0) 1 Try.underlying22 hinf hz0 hz1 .i64 .i64 _ _ m rfl rfl (by first | rfl | exact hsh) (by first | rfl | exact hsh) (by rw [hz2]; omega) (by simp only [maxLen]; omega) (Nat.le_refl _) ?_))
  intro w1 hown hgrow
  have hb1 : Below W0.heap.size W0 w1 := (Below.refl _ _).grown hgrow (Nat.le_refl _) (by intro k hk; cases hk)
  have hmem := wlist_made hown
  have hlt1 := hmem.at_.lt
  obtain ⟨W2, hW2⟩ : ∃ W2 : World, W2 = w1.alloc (.cells #[.int .u8 (D : Int), .slice (some ⟨W0.heap.size, 0, none⟩) m m] 24) := ⟨_, rfl⟩
  have b2 : Below w1.heap.size w1 W2 := by rw [hW2]; exact (Below.refl _ _).alloc (Nat.le_refl _) _
  have O2 : Hid (MemC W2 w1.heap.size 0 [.int .u8 (D : Int), .slice (some ⟨W0.heap.size, 0, none⟩) m m]) := Lib.hid (by rw [hW2]; exact MemC.new w1 [.int .u8 (D : Int), .slice (some ⟨W0.heap.size, 0, none⟩) m m] 24)
  have B2 := Lib.hid (B0.out.trans ((hb1.trans (b2.mono hb1.size)).mono B0.out.size))
  have X2 := Lib.hid ((X0.out.keep hb1).keep b2)
  have Q2 := Lib.hid ((Q0.out.keep hb1).keep b2)
  have M2 := Lib.hid (hmem.keep b2)
  have Z2 : Hid (w.heap.size < W0.heap.size ∧ W0.heap.size < w1.heap.size ∧ w1.heap.size < W2.heap.size ∧ B < w.heap.size) := Lib.hid ⟨Q0.out.at_.lt, hlt1, O2.out.at_.lt, HX.out.mem.at_.lt⟩
  have hA2 : Hid (0 < m → ∀ a, A = some a → a.block < w.heap.size) := Lib.hid (fun h0 a ha => by
    by_cases hn0 : 0 < n
    · obtain ⟨b, o, e, hb, _⟩ := HX.out.rd.getD (k := 0) hn0
      rw [ha] at e
      injection e with e
      subst e
      exact hb
    · exfalso
      have h1 := HI.out 0 h0
      omega)
  have HW2 := Lib.hid hW2
  clear hown hgrow hb1 hmem b2 hW2 X0 Q0 B0 hinf hz0 hz1 hz2 i0
  go_upto_region 2 with fail
  rw [← HW2.out]
  clear HW2
  obtain ⟨o1, _⟩ := O2.out.get 1 _ rfl
  go_wp2_with fail
  clear o1
  go_loopw [15] (fun i wr => ∃ k : Nat, k ≤ m ∧ i = .int .i64 (k : Int) ∧ MemC wr W0.heap.size 0 (wcells (toldL (fun i => at_ d.slots (2 * i)) k ++ List.replicate (m - k) 0)) ∧ Only W2 wr W0.heap.size W0.heap.size) (fun i _ => m - (intOf i).toNat)
  case atStart => exact ⟨0, Nat.zero_le _, rfl, M2.out, ⟨rfl, rfl, rfl, rfl, fun _ _ _ => rfl⟩⟩
  case round =>
    obtain ⟨k, hk, rfl, hmem, ho⟩ := hrel
    have HM := Lib.hid hmem; clear hmem
    have HO := Lib.hid ho; clear ho
    obtain ⟨o1, _⟩ := (O2.out.only HO.out (by have := Z2.out; omega) (by have := Z2.out; omega)).get 1 _ rfl
    by_cases hlt : k < m
    · have k0 : (0 : Int) ≤ (k : Int) := by omega
      have k1 : (k : Int) < (m : Int) := by omega
      have hxm := X2.out.mem.only HO.out (by have := Z2.out; omega) (by have := Z2.out; omega)
      have hxr : ReadsW wr A n d.slots := ⟨X2.out.rd.1, fun h0 => by
        obtain ⟨b, o, e, hc⟩ := X2.out.rd.2 h0
        have hbl := hA2.out (by omega) _ e
        have hbl : b < w.heap.size := hbl
        have hz := Z2.out
        exact ⟨b, o, e, by rw [HO.out.size]; exact hc.lt, fun j hj => (HO.out.cell (by omega) (by omega)).trans (hc.cell j hj)⟩⟩
      have HXR := Lib.hid hxr
      have HXC := Lib.hid (hxm.get 1 _ rfl).1
      have hlen : (wcells (toldL (fun i => at_ d.slots (2 * i)) k ++ List.replicate (m - k) 0)).length = m := by rw [wcells_length, List.length_append, toldL_length, List.length_replicate]; omega
      obtain ⟨y, cy, fy⟩ : ∃ y, wr.cell? ⟨W0.heap.size, k, none⟩ = some y ∧ wr.frozen? ⟨W0.heap.size, k, none⟩ = false := ⟨_, HM.out.get k _ (List.getElem?_eq_getElem (by rw [hlen]; exact hlt))⟩
      have HLN := Lib.hid hlen
      have hk9 : k ≤ 1024 := by omega
      clear hxm hxr hlen
      go_wp2_with fail
      go_region_law ((go_simp; go_at_call 44; (with_reducible refine (clos_halve A n c d.slots B k _ ?_ ?_ ?_ ?_).mono ?_); exact HXC.out; exact HXR.out.keep (Below.refl _ _).drew; exact HI.out k hlt; exact hk9; rintro e w' ⟨rfl, rfl⟩))
      all_goals
        have e5 : (wcells (toldL (fun i => at_ d.slots (2 * i)) k ++ List.replicate (m - k) 0)).set k (.int .u16 ((at_ d.slots (2 * k)).toNat : Int)) = wcells (toldL (fun i => at_ d.slots (2 * i)) (k + 1) ++ List.replicate (m - (k + 1)) 0) := by
          have := set_told (toldL (fun i => at_ d.slots (2 * i)) k) (m - (k + 1)) (at_ d.slots (2 * k))
          rw [toldL_length, show m - (k + 1) + 1 = m - k by omega] at this
          rw [this, toldL_succ]
        have hm5 := (HM.out.drew).setAt k (by rw [HLN.out]; exact hlt) (.int .u16 ((at_ d.slots (2 * k)).toNat : Int))
        rw [e5] at hm5
        have HM5 := Lib.hid hm5
        have HO5 := Lib.hid (HO.out.trans (Only.of_drew (Only.set wr.drew W0.heap.size W0.heap.size k (.int .u16 ((at_ d.slots (2 * k)).toNat : Int)))))
        clear hm5 e5 cy fy
        go_wp2_with fail
        go_roundw
        case rel => exact ⟨k + 1, by omega, by go_num, HM5.out, HO5.out⟩
        case measure => simp [intOf]; omega
    · obtain rfl : k = m := by omega
      obtain ⟨o0, _⟩ := (O2.out.only HO.out (by have := Z2.out; omega) (by have := Z2.out; omega)).get 0 _ rfl
      obtain ⟨q0, _⟩ := (Q2.out.only HO.out (by have := Z2.out; omega) (by have := Z2.out; omega)).get 0 _ rfl
      obtain ⟨q1, _⟩ := (Q2.out.only HO.out (by have := Z2.out; omega) (by have := Z2.out; omega)).get 1 _ rfl
      have k1 : ¬ (k : Int) < (k : Int) := by omega
      have hfin : FreshW w ((wr.setCell ⟨w.heap.size, 0, none⟩ (.int .u8 (D : Int))).setCell ⟨w.heap.size, 1, none⟩ (.slice (some ⟨W0.heap.size, 0, none⟩) k k)) (.slice (some ⟨W0.heap.size, 0, none⟩) k k) (toldL (fun i => at_ d.slots (2 * i)) k) := by
        have hmm := HM.out
        rw [Nat.sub_self, List.replicate_zero, List.append_nil] at hmm
        have hne : W0.heap.size ≠ w.heap.size := by have := Z2.out; omega
        have ho2 := (Only.set wr w.heap.size w.heap.size 0 (.int .u8 (D : Int))).trans (Only.set _ w.heap.size w.heap.size 1 (.slice (some ⟨W0.heap.size, 0, none⟩) k k))
        refine ⟨W0.heap.size, k, by rw [toldL_length], Nat.le_of_lt Z2.out.1, hmm.only ho2 hne hne, by rw [toldL_length]; exact Nat.le_refl _, by simp only [maxLen]; omega, ?_⟩
        exact (B2.out.trans (HO.out.below (Nat.le_of_lt Z2.out.1) (Nat.le_of_lt Z2.out.1))).trans (ho2.below (Nat.le_refl _) (Nat.le_refl _))
      have HFN := Lib.hid hfin
      clear hfin
      go_wp2_with fail
      exact bodyPost_ret (v := .agg #[.int .u8 (D : Int), .slice (some ⟨W0.heap.size, 0, none⟩) k k]) (by simp [results, Try.results40, go_sem, q0, q1]) rfl ⟨_, rfl, HFN.out⟩

end Go.Proofs.Ytlkmcjjdjbdihaa
