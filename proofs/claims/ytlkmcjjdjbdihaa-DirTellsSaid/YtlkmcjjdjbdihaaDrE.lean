/-
  slices.IndexFunc and ContainsFunc over runs; dir.bucket, Bucket, Depth.
-/
import Derived.Test.YtlkmcjjdjbdihaaDrD
namespace Go.Proofs.Ytlkmcjjdjbdihaa
open Go.RowKit Go.Maps
set_option linter.unusedVariables false
attribute [local go_sem ↓] Go.wp_at_zero Go.wp_at_succ

/-- The first run that is so. -/
def Found (l : List Run) (p : Run → Bool) (i : Int) : Prop := (∃ k, ∃ h : k < l.length, i = (k : Int) ∧ p (l[k]'h) = true ∧ ∀ r ∈ l.take k, p r = false) ∨ (i = -1 ∧ ∀ r ∈ l, p r = false)
def aheadB (s : Int) (r : Run) : Bool := decide (s < (r.2 : Int))
def singleB (r : Run) : Bool := decide (r.2 = r.1 + 1)

theorem clos_bucket (r : Run) (s : Int) (B : Nat) (w : World) (hB : w.cell? ⟨B, 0, none⟩ = some (.int .i64 s)) :
    Calls Try.prog 46 #[.agg #[.int .i64 (r.1 : Int), .int .i64 (r.2 : Int)], .pointer (some ⟨B, 0, none⟩)] w fun e w' => e = .returned (.bool (aheadB s r)) ∧ Below w.heap.size w w' := by
  unfold aheadB
  have hlt := World.block_lt_of_cell? w _ hB
  dsimp only at hlt
  generalize (r.2 : Int) = y at *
  go_enter Try.func46, Try.ntmps46
  go_wp2
  go_ret
  exact ⟨rfl, (Below.refl _ _).alloc (Nat.le_refl _) _⟩

theorem clos_single (r : Run) (w : World) (h : r.1 < r.2 ∧ r.2 ≤ 256) :
    Calls Try.prog 42 #[.agg #[.int .i64 (r.1 : Int), .int .i64 (r.2 : Int)]] w fun e w' => e = .returned (.bool (singleB r)) ∧ Below w.heap.size w w' := by
  unfold singleB
  have e : ((r.2 : Int) - (r.1 : Int) == 1) = decide (r.2 = r.1 + 1) := by rw [Bool.eq_iff_iff, beq_iff_eq, decide_eq_true_eq]; omega
  have hw : IntKind.i64.wrap ((r.2 : Int) - (r.1 : Int)) = (r.2 : Int) - (r.1 : Int) := IntWalk.i64_in _ (by omega)
  go_enter Try.func42, Try.ntmps42
  go_wp2
  go_ret
  exact ⟨rfl, (Below.refl _ _).alloc (Nat.le_refl _) _⟩

set_option maxHeartbeats 1000000 in
theorem ixb_any (A : Option Addr) (n c : Nat) (l : List Run) (s : Int) (B : Nat) (w : World) (h : ReadsR w A n l) (hn : n ≤ 256) (hB : w.cell? ⟨B, 0, none⟩ = some (.int .i64 s)) (hr : ∀ r ∈ l, r.1 < r.2 ∧ r.2 ≤ 256) :
    Calls Try.prog 45 #[.slice A n c, .func (.func 46) #[] #[.pointer (some ⟨B, 0, none⟩)]] w fun e w' => (∃ i : Int, e = .returned (.int .i64 i) ∧ Found l (aheadB s) i) ∧ Below w.heap.size w w' := by
  have hl := Lib.hid h.1
  have HR := Lib.hid h; clear h
  have HRR := Lib.hid hr; clear hr
  go_enter Try.func45, Try.ntmps45
  go_wp2_with fail
  go_loopw [8] (fun i wr => ∃ k : Nat, k ≤ n ∧ i = .int .i64 k ∧ (∀ r ∈ l.take k, (aheadB s) r = false) ∧ Below w.heap.size w wr) (fun i _ => n - (intOf i).toNat)
  case atStart => exact ⟨0, Nat.zero_le _, rfl, by simp, Below.refl _ _⟩
  case round =>
    obtain ⟨k, hk, rfl, ha, hb⟩ := hrel
    have HA := Lib.hid ha; clear ha
    have HB := Lib.hid hb; clear hb
    by_cases hlt : k < n
    · obtain ⟨b, o, rfl, hbl, c0, c1⟩ := (HR.out.keep HB.out).getD (k := k) hlt
      obtain ⟨x, hx⟩ : ∃ x, x = l[k]'(by have := hl.out; omega) := ⟨_, rfl⟩
      have e2 : l.getD k (0, 0) = x := by rw [hx]; simp [List.getD_eq_getElem?_getD, List.getElem?_eq_getElem (show k < l.length by have := hl.out; omega)]
      rw [e2] at c0 c1
      have ht : l.take (k + 1) = l.take k ++ [x] := by rw [hx]; exact List.take_succ_eq_append_getElem (by have := hl.out; omega)
      have HT := Lib.hid ht
      have hm : x ∈ l := by rw [hx]; exact List.getElem_mem _
      have HM := Lib.hid hm
      have HX := Lib.hid hx
      clear hx ht hm e2
      have k0 : (0 : Int) ≤ (k : Int) := by omega
      have k1 : (k : Int) < (n : Int) := by omega
      cases hx0 : (aheadB s) x
      · have HP := Lib.hid hx0; clear hx0
        go_wp2_with fail
        refine (clos_bucket x s B _ ((HB.out.cell (p := ⟨B, 0, none⟩) (World.block_lt_of_cell? w _ hB)).trans hB)).mono ?_
        rintro e w' ⟨rfl, hb'⟩
        rw [HP.out]
        have HB' := Lib.hid (HB.out.trans (hb'.mono HB.out.size)); clear hb'
        go_wp2_with fail
        go_roundw
        case rel => exact ⟨k + 1, by omega, by go_num, by rw [HT.out]; intro r hr; rcases List.mem_append.1 hr with h | h; exact HA.out r h; rw [List.mem_singleton] at h; rw [h]; exact HP.out, HB'.out⟩
        case measure => simp [intOf]; omega
      · have HP := Lib.hid hx0; clear hx0
        go_wp2_with fail
        refine (clos_bucket x s B _ ((HB.out.cell (p := ⟨B, 0, none⟩) (World.block_lt_of_cell? w _ hB)).trans hB)).mono ?_
        rintro e w' ⟨rfl, hb'⟩
        rw [HP.out]
        have HB' := Lib.hid (HB.out.trans (hb'.mono HB.out.size)); clear hb'
        go_wp2_with fail
        go_ret
        exact ⟨⟨(k : Int), rfl, .inl ⟨k, by have := hl.out; omega, rfl, by rw [← HX.out]; exact HP.out, HA.out⟩⟩, HB'.out⟩
    · obtain rfl : k = n := by omega
      go_wp2_with fail
      go_ret
      refine ⟨⟨-1, rfl, .inr ⟨rfl, ?_⟩⟩, HB.out⟩
      have := HA.out
      rwa [List.take_of_length_le (by have := hl.out; omega)] at this

set_option maxHeartbeats 1000000 in
theorem ixs_any (A : Option Addr) (n c : Nat) (l : List Run)  (w : World) (h : ReadsR w A n l) (hn : n ≤ 256)  (hr : ∀ r ∈ l, r.1 < r.2 ∧ r.2 ≤ 256) :
    Calls Try.prog 45 #[.slice A n c, .func (.func 42) #[] #[]] w fun e w' => (∃ i : Int, e = .returned (.int .i64 i) ∧ Found l singleB i) ∧ Below w.heap.size w w' := by
  have hl := Lib.hid h.1
  have HR := Lib.hid h; clear h
  have HRR := Lib.hid hr; clear hr
  go_enter Try.func45, Try.ntmps45
  go_wp2_with fail
  go_loopw [8] (fun i wr => ∃ k : Nat, k ≤ n ∧ i = .int .i64 k ∧ (∀ r ∈ l.take k, singleB r = false) ∧ Below w.heap.size w wr) (fun i _ => n - (intOf i).toNat)
  case atStart => exact ⟨0, Nat.zero_le _, rfl, by simp, Below.refl _ _⟩
  case round =>
    obtain ⟨k, hk, rfl, ha, hb⟩ := hrel
    have HA := Lib.hid ha; clear ha
    have HB := Lib.hid hb; clear hb
    by_cases hlt : k < n
    · obtain ⟨b, o, rfl, hbl, c0, c1⟩ := (HR.out.keep HB.out).getD (k := k) hlt
      obtain ⟨x, hx⟩ : ∃ x, x = l[k]'(by have := hl.out; omega) := ⟨_, rfl⟩
      have e2 : l.getD k (0, 0) = x := by rw [hx]; simp [List.getD_eq_getElem?_getD, List.getElem?_eq_getElem (show k < l.length by have := hl.out; omega)]
      rw [e2] at c0 c1
      have ht : l.take (k + 1) = l.take k ++ [x] := by rw [hx]; exact List.take_succ_eq_append_getElem (by have := hl.out; omega)
      have HT := Lib.hid ht
      have hm : x ∈ l := by rw [hx]; exact List.getElem_mem _
      have HM := Lib.hid hm
      have HX := Lib.hid hx
      clear hx ht hm e2
      have k0 : (0 : Int) ≤ (k : Int) := by omega
      have k1 : (k : Int) < (n : Int) := by omega
      cases hx0 : singleB x
      · have HP := Lib.hid hx0; clear hx0
        go_wp2_with fail
        refine (clos_single x _ (HRR.out x HM.out)).mono ?_
        rintro e w' ⟨rfl, hb'⟩
        rw [HP.out]
        have HB' := Lib.hid (HB.out.trans (hb'.mono HB.out.size)); clear hb'
        go_wp2_with fail
        go_roundw
        case rel => exact ⟨k + 1, by omega, by go_num, by rw [HT.out]; intro r hr; rcases List.mem_append.1 hr with h | h; exact HA.out r h; rw [List.mem_singleton] at h; rw [h]; exact HP.out, HB'.out⟩
        case measure => simp [intOf]; omega
      · have HP := Lib.hid hx0; clear hx0
        go_wp2_with fail
        refine (clos_single x _ (HRR.out x HM.out)).mono ?_
        rintro e w' ⟨rfl, hb'⟩
        rw [HP.out]
        have HB' := Lib.hid (HB.out.trans (hb'.mono HB.out.size)); clear hb'
        go_wp2_with fail
        go_ret
        exact ⟨⟨(k : Int), rfl, .inl ⟨k, by have := hl.out; omega, rfl, by rw [← HX.out]; exact HP.out, HA.out⟩⟩, HB'.out⟩
    · obtain rfl : k = n := by omega
      go_wp2_with fail
      go_ret
      refine ⟨⟨-1, rfl, .inr ⟨rfl, ?_⟩⟩, HB.out⟩
      have := HA.out
      rwa [List.take_of_length_le (by have := hl.out; omega)] at this

theorem found_any {l : List Run} {p : Run → Bool} {i : Int} (h : Found l p i) : decide (0 ≤ i) = l.any p := by
  rcases h with ⟨k, hk, rfl, hp, _⟩ | ⟨rfl, hn⟩
  · rw [List.any_eq_true.2 ⟨_, List.getElem_mem hk, hp⟩]
    simp
  · cases ha : l.any p
    · rfl
    · obtain ⟨x, hx, hp⟩ := List.any_eq_true.1 ha
      rw [hn x hx] at hp
      cases hp

theorem cfs_any (A : Option Addr) (n c : Nat) (l : List Run) (w : World) (h : ReadsR w A n l) (hn : n ≤ 256) (hr : ∀ r ∈ l, r.1 < r.2 ∧ r.2 ≤ 256) :
    Calls Try.prog 43 #[.slice A n c, .func (.func 42) #[] #[]] w fun e w' => e = .returned (.bool (l.any singleB)) ∧ Below w.heap.size w w' := by
  go_enter Try.func43, Try.ntmps43
  go_wp2_with fail
  refine (ixs_any A n c l _ h hn hr).mono ?_
  rintro e w' ⟨⟨i, rfl, hi⟩, hb⟩
  have HI := Lib.hid (found_any hi); clear hi
  have HB := Lib.hid hb; clear hb
  go_wp2_with fail
  go_ret
  rw [← HI.out]
  exact ⟨rfl, HB.out⟩

theorem found_run {l : List UInt16} {s : Nat} {i : Int} (h : Found (runsFrom l 0) (aheadB (s : Int)) i) (hs : s < l.length) : ∃ k : Nat, k < (runsFrom l 0).length ∧ i = (k : Int) ∧ (runsFrom l 0).getD k (0, 0) = runOf l s := by
  rcases h with ⟨k, hk, rfl, hp, hn⟩ | ⟨_, hn⟩
  · refine ⟨k, hk, rfl, ?_⟩
    have hf : (runsFrom l 0).find? (fun r => decide (s < r.2)) = some (runsFrom l 0)[k] := by
      rw [List.find?_eq_some_iff_append]
      refine ⟨by simpa [aheadB] using hp, (runsFrom l 0).take k, (runsFrom l 0).drop (k + 1), ?_, fun r hr => ?_⟩
      · rw [List.getElem_cons_drop, List.take_append_drop]
      · have := hn r hr
        simpa [aheadB] using this
    unfold runOf
    rw [hf, List.getD_eq_getElem?_getD, List.getElem?_eq_getElem hk]
  · obtain ⟨r, hr, _, h2⟩ := runs_cover l 0 s (Nat.zero_le _) hs
    have := hn r hr
    simp [aheadB] at this
    omega

def bucketR (d : Dir) (s : Int) : Run := if rightB d = true ∧ 0 ≤ s ∧ s < (d.slots.length : Int) then runOf d.slots s.toNat else (0, 0)
def bucketE (d : Dir) (s : Int) : Int := if rightB d = true then (if 0 ≤ s ∧ s < (d.slots.length : Int) then 0 else 2) else 170

set_option maxHeartbeats 2000000 in
set_option maxRecDepth 100000 in
theorem bucket_any (d : Dir) (A : Option Addr) (n c : Nat) (s : Int) (w : World) (h : ReadsW w A n d.slots) (hn : n ≤ maxLen) :
    Calls Try.prog 30 #[dval d A n c, .int .i64 s] w fun e w' => e = .returned (.tuple #[rval (bucketR d s), .int .i64 (bucketE d s)]) ∧ Below w.heap.size w w' := by
  have HL := Lib.hid h.1
  have HR := Lib.hid h; clear h
  obtain ⟨W0, hW0⟩ : ∃ W0 : World, W0 = w.alloc (.cells #[.int .u8 (d.depth.toNat : Int), .slice A n c] 24) := ⟨_, rfl⟩
  obtain ⟨W1, hW1⟩ : ∃ W1 : World, W1 = W0.alloc (.cells #[.int .i64 s] 3) := ⟨_, rfl⟩
  obtain ⟨W2, hW2⟩ : ∃ W2 : World, W2 = W1.alloc (.cells #[.int .i64 0, .int .i64 0] 56) := ⟨_, rfl⟩
  have b0 : Below w.heap.size w W0 := by rw [hW0]; exact (Below.refl _ w).alloc (Nat.le_refl _) _
  have b1 : Below W0.heap.size W0 W1 := by rw [hW1]; exact (Below.refl _ _).alloc (Nat.le_refl _) _
  have b2 : Below W1.heap.size W1 W2 := by rw [hW2]; exact (Below.refl _ _).alloc (Nat.le_refl _) _
  have z0 : W0.heap.size = w.heap.size + 1 := by rw [hW0]; simp
  have z1 : W1.heap.size = w.heap.size + 2 := by rw [hW1, World.size_alloc, z0]
  have s0 : BoxD W0 w.heap.size d A n c := by rw [hW0]; exact BoxD.new w d A n c HR.out
  have t1 : MemC W1 (w.heap.size + 1) 0 [.int .i64 s] := by rw [hW1, ← z0]; exact MemC.new W0 [.int .i64 s] 3
  have q2 : MemC W2 (w.heap.size + 2) 0 [.int .i64 0, .int .i64 0] := by rw [hW2, ← z1]; exact MemC.new W1 [.int .i64 0, .int .i64 0] 56
  have B2 := Lib.hid ((b0.trans (b1.mono b0.size)).trans (b2.mono (Nat.le_trans b0.size b1.size)))
  have S2 := Lib.hid ((s0.keep b1).keep b2)
  have T2 := Lib.hid (t1.keep b2)
  have Q2 := Lib.hid q2
  have HW : Hid (W2 = ((w.alloc (.cells #[.int .u8 (d.depth.toNat : Int), .slice A n c] 24)).alloc (.cells #[.int .i64 s] 3)).alloc (.cells #[.int .i64 0, .int .i64 0] 56)) := Lib.hid (by rw [hW2, hW1, hW0])
  clear b0 b1 b2 z0 z1 s0 t1 q2 hW0 hW1 hW2
  obtain ⟨a0, a1⟩ := S2.out.cells
  have hmf : ∀ (fn : Fn) (first cap : Array Value) (w : World), (Instr.makeFunc fn first cap).run Try.prog w = .ok (.func fn first cap) w := fun _ _ _ _ => rfl
  unfold dval
  go_enter Try.func30, Try.ntmps30
  go_upto_region 1 with fail
  rw [← HW.out]
  clear HW
  go_wp2_with fail
  rw [dval_eq]
  refine (right_any d A n c _ S2.out.rd hn).mono ?_
  rintro e w3 ⟨rfl, hb⟩
  have B3 := Lib.hid (B2.out.trans (hb.mono B2.out.size))
  have S3 := Lib.hid (S2.out.keep hb)
  have T3 := Lib.hid (T2.out.keep hb)
  have Q3 := Lib.hid (Q2.out.keep hb)
  clear hb a0 a1 B2 S2 T2 Q2
  obtain ⟨a0, a1⟩ := S3.out.cells
  obtain ⟨t0, _⟩ := T3.out.get 0 _ rfl
  obtain ⟨q0, _⟩ := Q3.out.get 0 _ rfl
  obtain ⟨q1, _⟩ := Q3.out.get 1 _ rfl
  have hfin : ∀ W, Below w.heap.size w W → ∀ u v, Below w.heap.size w ((W.setCell ⟨w.heap.size + 2, 0, none⟩ u).setCell ⟨w.heap.size + 2, 1, none⟩ v) := fun W hW u v => (hW.setCell (p := ⟨w.heap.size + 2, 0, none⟩) (by simp) _).setCell (p := ⟨w.heap.size + 2, 1, none⟩) (by simp) _
  have HFN := Lib.hid hfin; clear hfin
  unfold maxLen at hn
  cases hr : rightB d
  · have HF : Hid (bucketR d s = (0, 0) ∧ bucketE d s = 170) := Lib.hid (by unfold bucketR bucketE; rw [hr]; exact ⟨rfl, rfl⟩)
    clear hr
    go_wp2_with fail
    refine bodyPost_ret (v := .tuple #[.agg #[.int .i64 0, .int .i64 0], .int .i64 170]) (by simp [results, Try.results30, go_sem, q0, q1]) rfl ⟨?_, HFN.out _ B3.out _ _⟩
    rw [HF.out.1, HF.out.2]
    rfl
  · have HRT := Lib.hid (rightB_iff.1 hr)
    by_cases hin : 0 ≤ s ∧ s < (n : Int)
    · have HF : Hid (bucketR d s = runOf d.slots s.toNat ∧ bucketE d s = 0) := Lib.hid (by unfold bucketR bucketE; rw [hr, HL.out, if_pos ⟨rfl, hin⟩, if_pos hin]; exact ⟨rfl, rfl⟩)
      clear hr
      obtain ⟨x, rfl⟩ := Int.eq_ofNat_of_zero_le hin.1
      have i1 : (x : Int) < (n : Int) := hin.2
      have i2 : ¬ (x : Int) < 0 := by omega
      have i3 : ¬ (n : Int) ≤ (x : Int) := by omega
      have hn256 : n ≤ 256 := by
        have h1 := HRT.out.len
        have h2 := pow8 HRT.out.le
        rw [← HL.out, h1]
        exact h2
      clear hin
      go_wp2_with fail
      refine (runs_any A n c d.slots _ S3.out.rd hn256).mono ?_
      rintro e w4 ⟨v, rfl, hown, hb⟩
      obtain ⟨A4, c4, rfl, hrd, _, _⟩ := own_readsR hown
      have hm : (runsFrom d.slots 0).length ≤ 256 := Nat.le_trans (runs_many d.slots 0) (by rw [HL.out]; omega)
      have hea : ∀ r ∈ runsFrom d.slots 0, r.1 < r.2 ∧ r.2 ≤ 256 := fun r hr => by
        obtain ⟨_, h1, h2, _⟩ := runs_each d.slots 0 r hr
        rw [HL.out] at h2
        omega
      have HEA := Lib.hid hea
      have HRD := Lib.hid hrd
      have B4 := Lib.hid (B3.out.trans (hb.mono B3.out.size))
      have T4 := Lib.hid (T3.out.keep hb)
      have Q4 := Lib.hid (Q3.out.keep hb)
      clear hb hown hrd hea a0 a1 t0 q0 q1 B3 T3 Q3
      obtain ⟨m, hmm⟩ : ∃ m, m = (runsFrom d.slots 0).length := ⟨_, rfl⟩
      rw [← hmm] at HRD hm ⊢
      have HM := Lib.hid hmm; clear hmm
      go_wp2_with fail
      refine (ixb_any A4 m c4 (runsFrom d.slots 0) (x : Int) (w.heap.size + 1) _ HRD.out hm (T4.out.get 0 _ rfl).1 HEA.out).mono ?_
      rintro e w5 ⟨⟨i, rfl, hi⟩, hb⟩
      obtain ⟨j, hj, rfl, hrun⟩ := found_run hi (by rw [HL.out]; omega)
      obtain ⟨b, o, rfl, hbl, c0, c1⟩ := (HRD.out.keep hb).getD (k := j) (by rw [HM.out]; exact hj)
      rw [hrun] at c0 c1
      have HRU := Lib.hid hrun
      have B5 := Lib.hid (B4.out.trans (hb.mono B4.out.size))
      have Q5 := Q4.out.keep hb
      obtain ⟨q0, f0⟩ := Q5.get 0 _ rfl
      obtain ⟨q1, f1⟩ := Q5.get 1 _ rfl
      have j0 : (0 : Int) ≤ (j : Int) := by omega
      have j1 : (j : Int) < (m : Int) := by rw [HM.out]; omega
      clear hb hi hrun hj
      obtain ⟨r, hre⟩ : ∃ r, r = runOf d.slots x := ⟨_, rfl⟩
      rw [← hre] at c0 c1
      have HRE := Lib.hid hre; clear hre
      obtain ⟨r1, r2⟩ := r
      dsimp only at c0 c1
      go_wp2_with fail
      refine bodyPost_ret (v := .tuple #[.agg #[.int .i64 (r1 : Int), .int .i64 (r2 : Int)], .int .i64 0]) (by simp [results, Try.results30, go_sem, q0, q1]) rfl ⟨?_, HFN.out _ B5.out _ _⟩
      rw [HF.out.1, HF.out.2]
      rw [show ((x : Int)).toNat = x from rfl, ← HRE.out]
      rfl
    · have HF : Hid (bucketR d s = (0, 0) ∧ bucketE d s = 2) := Lib.hid (by unfold bucketR bucketE; rw [hr, HL.out, if_neg (fun h => hin h.2), if_neg hin]; exact ⟨rfl, rfl⟩)
      have h' : s < 0 ∨ (¬ s < 0 ∧ (n : Int) ≤ s) := by omega
      clear hr hin
      rcases h' with h1 | ⟨h1, h2⟩
      all_goals
        go_wp2_with fail
        refine bodyPost_ret (v := .tuple #[.agg #[.int .i64 0, .int .i64 0], .int .i64 2]) (by simp [results, Try.results30, go_sem, q0, q1]) rfl ⟨?_, HFN.out _ B3.out _ _⟩
        rw [HF.out.1, HF.out.2]
        rfl

end Go.Proofs.Ytlkmcjjdjbdihaa
