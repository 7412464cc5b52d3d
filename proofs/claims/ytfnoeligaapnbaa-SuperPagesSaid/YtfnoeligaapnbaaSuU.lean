/-
  SuperTells: the walk.
-/
import Derived.Test.YtfnoeligaapnbaaSuT
namespace Go.Proofs.Ytfnoeligaapnbaa
open Go.RowKit Go.Shelf
set_option linter.unusedVariables false
set_option linter.unusedSimpArgs false
attribute [local go_sem ↓] Go.wp_at_zero Go.wp_at_succ

theorem same_self (l : List UInt8) : same8 l l = true := same8_iff.2 rfl

set_option maxHeartbeats 2000000 in
theorem tells_long (s : Sup) (A B : Option Addr) (n c m d : Nat) (w : World) (hn : n ≤ maxLen) (hm : m ≤ maxLen) (ho : 200 < n ∨ 200 < m) :
    Calls Try.prog 3 #[sval s, .slice A n c, .slice B m d] w fun e w' => e = .returned (.bool true) ∧ Below w.heap.size w w' := by
  unfold maxLen at hn hm
  have h' : (200 : Int) < (n : Int) ∨ (¬ (200 : Int) < (n : Int) ∧ (200 : Int) < (m : Int)) := by omega
  clear ho
  rcases h' with h1 | ⟨h1, h2⟩
  all_goals
    go_enter Try.func3, Try.ntmps3
    go_upto_region 0 with fail
    refine wp_region_lit ?_
    refine wl_box (.tmp 0) rfl (by rfl) s rfl fun W1 hb1 hm1 hs1 => ?_
    clear hm1 hs1
    go_wp2_with fail
    refine (awake_any _).mono ?_
    rintro e w' ⟨rfl, hb⟩
    have B2 := Lib.hid (hb1.trans (hb.mono hb1.size))
    clear hb hb1
    go_wp2_with fail
    go_ret
    exact ⟨rfl, B2.out⟩

set_option maxHeartbeats 8000000 in
set_option maxRecDepth 100000 in
theorem tells_in (s bs ds : Sup) (el p q : List UInt8) (ee de pe k : Int) (r : Bool) (x : Nat) (A B : Option Addr) (n c m d : Nat) (w : World) (h : Reads8 w A n p) (g : Reads8 w B m q) (hn : n ≤ 200) (hm : m ≤ 200) (hnc : n ≤ c) (hmd : m ≤ d)
    (hx : s.gen.toNat = x)
    (enc : Hid (∀ w, Calls Try.prog 12 #[sval s] w fun e w' => RetR w w' (fun v => .tuple #[v, .int .i64 ee]) el e))
    (renc : Hid (∀ w, Calls Try.prog 13 #[sval s] w fun e w' => RetR w w' (fun v => .tuple #[v, .int .i64 ee]) el e))
    (dec : Hid (∀ A n c w, Reads8 w A n p → n ≤ maxLen → n ≤ c → Calls Try.prog 14 #[.slice A n c] w fun e w' => e = .returned (.tuple #[sval ds, .int .i64 de]) ∧ Below w.heap.size w w'))
    (rdec : Hid (∀ A n c w, Reads8 w A n p → n ≤ maxLen → n ≤ c → Calls Try.prog 15 #[.slice A n c] w fun e w' => e = .returned (.tuple #[sval ds, .int .i64 de]) ∧ Below w.heap.size w w'))
    (pck : Hid (∀ A B n c m d w, Reads8 w A n p → Reads8 w B m q → n ≤ maxLen → n ≤ c → m ≤ maxLen → m ≤ d → Calls Try.prog 16 #[.slice A n c, .slice B m d] w fun e w' => e = .returned (.tuple #[sval bs, .int .i64 k, .int .i64 pe]) ∧ Below w.heap.size w w'))
    (rpck : Hid (∀ A B n c m d w, Reads8 w A n p → Reads8 w B m q → n ≤ maxLen → n ≤ c → m ≤ maxLen → m ≤ d → Calls Try.prog 17 #[.slice A n c, .slice B m d] w fun e w' => e = .returned (.tuple #[sval bs, .int .i64 k, .int .i64 pe]) ∧ Below w.heap.size w w'))
    (rgt : Hid (∀ w, Calls Try.prog 19 #[sval s] w fun e w' => e = .returned (.bool r) ∧ Below w.heap.size w w'))
    (rrgt : Hid (∀ w, Calls Try.prog 20 #[sval s] w fun e w' => e = .returned (.bool r) ∧ Below w.heap.size w w'))
    (slt : Hid (∀ w, Calls Try.prog 21 #[.int .u64 (x : Int)] w fun e w' => e = .returned (.int .i64 ((x : Int) % 2)) ∧ w = w')) :
    Calls Try.prog 3 #[sval s, .slice A n c, .slice B m d] w fun e w' => e = .returned (.bool true) ∧ Below w.heap.size w w' := by
  have HX := Lib.hid hx
  have P0 := Lib.hid h
  have Q0 := Lib.hid g
  have hn2 : ¬ (200 : Int) < (n : Int) := by omega
  have hm2 : ¬ (200 : Int) < (m : Int) := by omega
  have hnM : n ≤ maxLen := by simp only [maxLen]; omega
  have hmM : m ≤ maxLen := by simp only [maxLen]; omega
  have lp := Lib.hid h.1
  have lq := Lib.hid g.1
  clear hx h g
  go_enter Try.func3, Try.ntmps3
  go_upto_region 0 with fail
  refine wp_region_lit ?_
  refine wl_box (.tmp 0) rfl (by rfl) s rfl fun W1 hb1 hm1 hs1 => ?_
  have B1 := Lib.hid hb1
  have S1 := Lib.hid hm1
  have P1 := Lib.hid (P0.out.keep hb1)
  have Q1 := Lib.hid (Q0.out.keep hb1)
  clear hb1 hm1 hs1 P0 Q0
  go_wp2_with fail
  refine (again_any A n c p _ P1.out hnM).mono ?_
  rintro e wI ⟨v, rfl, hF⟩
  obtain ⟨gI, cI, rfl, _, hcI, _, hM, hb⟩ := hF.open_ lp.out
  have B2 := Lib.hid (B1.out.trans (hb.mono B1.out.size))
  have S2 := Lib.hid (S1.out.keep hb)
  have P2 := Lib.hid (P1.out.keep hb)
  have Q2 := Lib.hid (Q1.out.keep hb)
  clear B1 S1 P1 Q1
  have I2 := Lib.hid hM.reads
  clear hF hM hb
  go_wp2_with fail
  refine (again_any B m d q _ Q2.out hmM).mono ?_
  rintro e wO ⟨v, rfl, hF⟩
  obtain ⟨gO, cO, rfl, _, hcO, _, hM, hb⟩ := hF.open_ lq.out
  have B3 := Lib.hid (B2.out.trans (hb.mono B2.out.size))
  have S3 := Lib.hid (S2.out.keep hb)
  have P3 := Lib.hid (P2.out.keep hb)
  have Q3 := Lib.hid (Q2.out.keep hb)
  have I3 := Lib.hid (I2.out.keep hb)
  clear B2 S2 P2 Q2 I2
  have O3 := Lib.hid hM.reads
  clear hF hM hb
  go_wp2_with (refine wl_load (.tmp 3) rfl (by rfl) w.heap.size s rfl S3.out ?_)
  refine (enc.out _).mono ?_
  rintro e wE ⟨AE, nE, cE, rfl, hr, hcE, hb⟩
  have B4 := Lib.hid (B3.out.trans (hb.mono B3.out.size))
  have S4 := Lib.hid (S3.out.keep hb)
  have P4 := Lib.hid (P3.out.keep hb)
  have Q4 := Lib.hid (Q3.out.keep hb)
  have I4 := Lib.hid (I3.out.keep hb)
  have O4 := Lib.hid (O3.out.keep hb)
  clear B3 S3 P3 Q3 I3 O3
  have E4 := Lib.hid hr
  clear hr hb
  go_wp2_with (refine wl_load (.tmp 3) rfl (by rfl) w.heap.size s rfl S4.out ?_)
  refine (renc.out _).mono ?_
  rintro e wF ⟨AF, nF, cF, rfl, hr, hcF, hb⟩
  have B5 := Lib.hid (B4.out.trans (hb.mono B4.out.size))
  have S5 := Lib.hid (S4.out.keep hb)
  have P5 := Lib.hid (P4.out.keep hb)
  have Q5 := Lib.hid (Q4.out.keep hb)
  have I5 := Lib.hid (I4.out.keep hb)
  have O5 := Lib.hid (O4.out.keep hb)
  have E5 := Lib.hid (E4.out.keep hb)
  clear B4 S4 P4 Q4 I4 O4 E4
  have F5 := Lib.hid hr
  clear hr hb
  go_wp2_with fail
  refine (dec.out _ n _ _ I5.out hnM hcI).mono ?_
  rintro e X13 ⟨rfl, hbx⟩
  go_wp2_with (refine wl_new 13 (.tmp 49) rfl rfl rfl (by rfl) ds rfl rfl (by rfl) ?_)
  intro W13 hbw hmw hsw
  have hb := hbx.trans (hbw.mono hbx.size)
  have B6 := Lib.hid (B5.out.trans (hb.mono B5.out.size))
  have S6 := Lib.hid (S5.out.keep hb)
  have P6 := Lib.hid (P5.out.keep hb)
  have Q6 := Lib.hid (Q5.out.keep hb)
  have I6 := Lib.hid (I5.out.keep hb)
  have O6 := Lib.hid (O5.out.keep hb)
  have E6 := Lib.hid (E5.out.keep hb)
  have F6 := Lib.hid (F5.out.keep hb)
  clear B5 S5 P5 Q5 I5 O5 E5 F5
  have N13_6 := Lib.hid hmw
  obtain ⟨y13, hy⟩ : ∃ y, y = X13.heap.size := ⟨_, rfl⟩
  rw [← hy] at N13_6 ⊢
  clear hb hbx hbw hmw hsw hy
  go_wp2_with fail
  refine (rdec.out _ n _ _ P6.out hnM hnc).mono ?_
  rintro e X15 ⟨rfl, hbx⟩
  go_wp2_with (refine wl_new 15 (.tmp 54) rfl rfl rfl (by rfl) ds rfl rfl (by rfl) ?_)
  intro W15 hbw hmw hsw
  have hb := hbx.trans (hbw.mono hbx.size)
  have B7 := Lib.hid (B6.out.trans (hb.mono B6.out.size))
  have S7 := Lib.hid (S6.out.keep hb)
  have P7 := Lib.hid (P6.out.keep hb)
  have Q7 := Lib.hid (Q6.out.keep hb)
  have I7 := Lib.hid (I6.out.keep hb)
  have O7 := Lib.hid (O6.out.keep hb)
  have E7 := Lib.hid (E6.out.keep hb)
  have F7 := Lib.hid (F6.out.keep hb)
  have N13_7 := Lib.hid (N13_6.out.keep hb)
  clear B6 S6 P6 Q6 I6 O6 E6 F6 N13_6
  have N15_7 := Lib.hid hmw
  obtain ⟨y15, hy⟩ : ∃ y, y = X15.heap.size := ⟨_, rfl⟩
  rw [← hy] at N15_7 ⊢
  clear hb hbx hbw hmw hsw hy
  go_wp2_with fail
  refine (pck.out _ _ n _ m _ _ I7.out O7.out hnM hcI hmM hcO).mono ?_
  rintro e X17 ⟨rfl, hbx⟩
  go_wp2_with (refine wl_new 17 (.tmp 60) rfl rfl rfl (by rfl) bs rfl rfl (by rfl) ?_)
  intro W17 hbw hmw hsw
  have hb := hbx.trans (hbw.mono hbx.size)
  have B8 := Lib.hid (B7.out.trans (hb.mono B7.out.size))
  have S8 := Lib.hid (S7.out.keep hb)
  have P8 := Lib.hid (P7.out.keep hb)
  have Q8 := Lib.hid (Q7.out.keep hb)
  have I8 := Lib.hid (I7.out.keep hb)
  have O8 := Lib.hid (O7.out.keep hb)
  have E8 := Lib.hid (E7.out.keep hb)
  have F8 := Lib.hid (F7.out.keep hb)
  have N13_8 := Lib.hid (N13_7.out.keep hb)
  have N15_8 := Lib.hid (N15_7.out.keep hb)
  clear B7 S7 P7 Q7 I7 O7 E7 F7 N13_7 N15_7
  have N17_8 := Lib.hid hmw
  obtain ⟨y17, hy⟩ : ∃ y, y = X17.heap.size := ⟨_, rfl⟩
  rw [← hy] at N17_8 ⊢
  clear hb hbx hbw hmw hsw hy
  go_wp2_with fail
  refine (rpck.out _ _ n _ m _ _ P8.out Q8.out hnM hnc hmM hmd).mono ?_
  rintro e X20 ⟨rfl, hbx⟩
  go_wp2_with (refine wl_new 20 (.tmp 67) rfl rfl rfl (by rfl) bs rfl rfl (by rfl) ?_)
  intro W20 hbw hmw hsw
  have hb := hbx.trans (hbw.mono hbx.size)
  have B9 := Lib.hid (B8.out.trans (hb.mono B8.out.size))
  have S9 := Lib.hid (S8.out.keep hb)
  have P9 := Lib.hid (P8.out.keep hb)
  have Q9 := Lib.hid (Q8.out.keep hb)
  have I9 := Lib.hid (I8.out.keep hb)
  have O9 := Lib.hid (O8.out.keep hb)
  have E9 := Lib.hid (E8.out.keep hb)
  have F9 := Lib.hid (F8.out.keep hb)
  have N13_9 := Lib.hid (N13_8.out.keep hb)
  have N15_9 := Lib.hid (N15_8.out.keep hb)
  have N17_9 := Lib.hid (N17_8.out.keep hb)
  clear B8 S8 P8 Q8 I8 O8 E8 F8 N13_8 N15_8 N17_8
  have N20_9 := Lib.hid hmw
  obtain ⟨y20, hy⟩ : ∃ y, y = X20.heap.size := ⟨_, rfl⟩
  rw [← hy] at N20_9 ⊢
  clear hb hbx hbw hmw hsw hy
  go_wp2_with (first | refine wl_load (.tmp 17) rfl (by rfl) y17 bs rfl N17_9.out ?_ | refine wl_load (.tmp 20) rfl (by rfl) y20 bs rfl N20_9.out ?_ | refine wl_nsame (.tmp 89) (.tmp 90) _ rfl (by rfl) bs rfl rfl ?_ | refine wl_load (.tmp 13) rfl (by rfl) y13 ds rfl N13_9.out ?_ | refine wl_load (.tmp 15) rfl (by rfl) y15 ds rfl N15_9.out ?_ | refine wl_nsame (.tmp 94) (.tmp 95) _ rfl (by rfl) ds rfl rfl ?_)
  refine (equal_any _ _ nE nF cE cF el el _ E9.out F9.out).mono ?_
  rintro e w' ⟨rfl, rfl⟩
  rw [same_self]
  have HS : Hid (∀ w', Below W20.heap.size W20 w' → MemC w' w.heap.size 0 (scells s) ∧ w'.cell? ⟨w.heap.size, 0, none⟩ = some (.int .u64 (x : Int))) := Lib.hid fun w' hb => ⟨S9.out.keep hb, by rw [← HX.out]; exact ((S9.out.keep hb).gets 0 _ (scells_gen s)).1⟩
  have wx : IntKind.i64.wrap ((x : Int) % 2) = (x : Int) % 2 := IntWalk.i64_in _ (by omega)
  have tx : (x : Int).tmod 2 = (x : Int) % 2 := Int.tmod_eq_emod_of_nonneg (by omega)
  go_upto_region 12 with fail
  refine wp_region_held_drew (S := fun w' => MemC w' w.heap.size 0 (scells s) ∧ w'.cell? ⟨w.heap.size, 0, none⟩ = some (.int .u64 (x : Int))) (by kernel_rfl) (HS.out _ (Below.refl _ _).drew) (fun hHeld => ?_)
  refine wpAnyH_take (i := 0) (v := sval s) rfl (by kernel_rfl) (by kernel_rfl) (by kernel_rfl) (fun _ _ _ h => h) (yi_load (by rfl) (.tmp 3) rfl w.heap.size s rfl (fun w h => h.1)) hHeld ?_
  try simp only [Act.put, List.getElem_toArray, List.getElem_cons_succ, List.getElem_cons_zero, List.setIfInBounds_toArray, List.set_cons_zero, List.set_cons_succ]
  refine wpAnyH_take (i := 2) (v := sval s) rfl (by kernel_rfl) (by kernel_rfl) (by kernel_rfl) (fun _ _ _ h => h) (yi_load (by rfl) (.tmp 3) rfl w.heap.size s rfl (fun w h => h.1)) hHeld ?_
  try simp only [Act.put, List.getElem_toArray, List.getElem_cons_succ, List.getElem_cons_zero, List.setIfInBounds_toArray, List.set_cons_zero, List.set_cons_succ]
  refine wpAnyH_ready (rs := [1]) (by kernel_rfl) (by simp) ?_
  refine AllReadyH.cons rfl (fun K hK => ?_) AllReadyH.nil
  go_simp
  go_at_call 19
  refine (rgt.out _).mono ?_
  rintro e wa ⟨rfl, hb⟩
  have hba := (Below.refl W20.heap.size W20).drew.trans (hb.mono (Nat.le_refl _))
  refine hK.out _ _ (HS.out _ hba) (fun hHeld => ?_)
  try simp only [Act.put, List.getElem_toArray, List.getElem_cons_succ, List.getElem_cons_zero, List.setIfInBounds_toArray, List.set_cons_zero, List.set_cons_succ]
  refine wpAnyH_ready (rs := [3]) (by kernel_rfl) (by simp) ?_
  refine AllReadyH.cons rfl (fun K hK => ?_) AllReadyH.nil
  go_simp
  go_at_call 20
  refine (rrgt.out _).mono ?_
  rintro e wb ⟨rfl, hb⟩
  have hbb := hba.trans (hb.mono hba.size)
  refine hK.out _ _ (HS.out _ hbb) (fun hHeld => ?_)
  try simp only [Act.put, List.getElem_toArray, List.getElem_cons_succ, List.getElem_cons_zero, List.setIfInBounds_toArray, List.set_cons_zero, List.set_cons_succ]
  refine wpAnyH_take (i := 4) (v := .bool true) rfl (by kernel_rfl) (by kernel_rfl) (by kernel_rfl) (fun _ _ _ h => h) (Or.inl ⟨by kernel_rfl, fun w _ => by go_simp⟩) hHeld ?_
  try simp only [Act.put, List.getElem_toArray, List.getElem_cons_succ, List.getElem_cons_zero, List.setIfInBounds_toArray, List.set_cons_zero, List.set_cons_succ]
  refine wpAnyH_take (i := 5) (v := .bool true) rfl (by kernel_rfl) (by kernel_rfl) (by kernel_rfl) (fun _ _ _ h => h) (Or.inl ⟨by kernel_rfl, fun w _ => by go_simp⟩) hHeld ?_
  try simp only [Act.put, List.getElem_toArray, List.getElem_cons_succ, List.getElem_cons_zero, List.setIfInBounds_toArray, List.set_cons_zero, List.set_cons_succ]
  refine wpAnyH_take (i := 6) (v := .pointer (some ⟨w.heap.size, 0, none⟩)) rfl (by kernel_rfl) (by kernel_rfl) (by kernel_rfl) (fun _ _ _ h => h) (Or.inl ⟨by kernel_rfl, fun w _ => by go_simp⟩) hHeld ?_
  try simp only [Act.put, List.getElem_toArray, List.getElem_cons_succ, List.getElem_cons_zero, List.setIfInBounds_toArray, List.set_cons_zero, List.set_cons_succ]
  refine wpAnyH_take (i := 7) (v := .int .u64 (x : Int)) rfl (by kernel_rfl) (by kernel_rfl) (by kernel_rfl) (fun _ _ _ h => h) (Or.inl ⟨by kernel_rfl, fun w h => by have hc := h.2; go_simp⟩) hHeld ?_
  try simp only [Act.put, List.getElem_toArray, List.getElem_cons_succ, List.getElem_cons_zero, List.setIfInBounds_toArray, List.set_cons_zero, List.set_cons_succ]
  refine wpAnyH_take (i := 9) (v := .pointer (some ⟨w.heap.size, 0, none⟩)) rfl (by kernel_rfl) (by kernel_rfl) (by kernel_rfl) (fun _ _ _ h => h) (Or.inl ⟨by kernel_rfl, fun w _ => by go_simp⟩) hHeld ?_
  try simp only [Act.put, List.getElem_toArray, List.getElem_cons_succ, List.getElem_cons_zero, List.setIfInBounds_toArray, List.set_cons_zero, List.set_cons_succ]
  refine wpAnyH_take (i := 10) (v := .int .u64 (x : Int)) rfl (by kernel_rfl) (by kernel_rfl) (by kernel_rfl) (fun _ _ _ h => h) (Or.inl ⟨by kernel_rfl, fun w h => by have hc := h.2; go_simp⟩) hHeld ?_
  try simp only [Act.put, List.getElem_toArray, List.getElem_cons_succ, List.getElem_cons_zero, List.setIfInBounds_toArray, List.set_cons_zero, List.set_cons_succ]
  refine wpAnyH_take (i := 11) (v := .int .u64 ((x : Int) % 2)) rfl (by kernel_rfl) (by kernel_rfl) (by kernel_rfl) (fun _ _ _ h => h) (Or.inl ⟨by kernel_rfl, fun w _ => by go_simp⟩) hHeld ?_
  try simp only [Act.put, List.getElem_toArray, List.getElem_cons_succ, List.getElem_cons_zero, List.setIfInBounds_toArray, List.set_cons_zero, List.set_cons_succ]
  refine wpAnyH_take (i := 12) (v := .int .i64 ((x : Int) % 2)) rfl (by kernel_rfl) (by kernel_rfl) (by kernel_rfl) (fun _ _ _ h => h) (Or.inl ⟨by kernel_rfl, fun w _ => by go_simp⟩) hHeld ?_
  try simp only [Act.put, List.getElem_toArray, List.getElem_cons_succ, List.getElem_cons_zero, List.setIfInBounds_toArray, List.set_cons_zero, List.set_cons_succ]
  refine wpAnyH_ready (rs := [8]) (by kernel_rfl) (by simp) ?_
  refine AllReadyH.cons rfl (fun K hK => ?_) AllReadyH.nil
  go_simp
  go_at_call 21
  refine (slt.out _).mono ?_
  rintro e w' ⟨rfl, rfl⟩
  refine hK.out _ _ hHeld (fun hHeld => ?_)
  try simp only [Act.put, List.getElem_toArray, List.getElem_cons_succ, List.getElem_cons_zero, List.setIfInBounds_toArray, List.set_cons_zero, List.set_cons_succ]
  refine wpAnyH_take (i := 13) (v := .bool true) rfl (by kernel_rfl) (by kernel_rfl) (by kernel_rfl) (fun _ _ _ h => h) (Or.inl ⟨by kernel_rfl, fun w _ => by go_simp⟩) hHeld ?_
  try simp only [Act.put, List.getElem_toArray, List.getElem_cons_succ, List.getElem_cons_zero, List.setIfInBounds_toArray, List.set_cons_zero, List.set_cons_succ]
  refine wpAnyH_take (i := 14) (v := .bool true) rfl (by kernel_rfl) (by kernel_rfl) (by kernel_rfl) (fun _ _ _ h => h) (Or.inl ⟨by kernel_rfl, fun w _ => by go_simp⟩) hHeld ?_
  try simp only [Act.put, List.getElem_toArray, List.getElem_cons_succ, List.getElem_cons_zero, List.setIfInBounds_toArray, List.set_cons_zero, List.set_cons_succ]
  refine wpAnyH_take (i := 15) (v := .bool true) rfl (by kernel_rfl) (by kernel_rfl) (by kernel_rfl) (fun _ _ _ h => h) (Or.inl ⟨by kernel_rfl, fun w _ => by go_simp⟩) hHeld ?_
  try simp only [Act.put, List.getElem_toArray, List.getElem_cons_succ, List.getElem_cons_zero, List.setIfInBounds_toArray, List.set_cons_zero, List.set_cons_succ]
  refine wpAnyH_take (i := 16) (v := .slice (some ⟨gI, 0, none⟩) n cI) rfl (by kernel_rfl) (by kernel_rfl) (by kernel_rfl) (fun _ _ _ h => h) (Or.inl ⟨by kernel_rfl, fun w _ => by go_simp⟩) hHeld ?_
  try simp only [Act.put, List.getElem_toArray, List.getElem_cons_succ, List.getElem_cons_zero, List.setIfInBounds_toArray, List.set_cons_zero, List.set_cons_succ]
  refine wpAnyH_take (i := 17) (v := .slice A n c) rfl (by kernel_rfl) (by kernel_rfl) (by kernel_rfl) (fun _ _ _ h => h) (Or.inl ⟨by kernel_rfl, fun w _ => by go_simp⟩) hHeld ?_
  try simp only [Act.put, List.getElem_toArray, List.getElem_cons_succ, List.getElem_cons_zero, List.setIfInBounds_toArray, List.set_cons_zero, List.set_cons_succ]
  refine wpAnyH_ready (rs := [18]) (by kernel_rfl) (by simp) ?_
  refine AllReadyH.cons rfl (fun K hK => ?_) AllReadyH.nil
  go_simp
  go_at_call 18
  refine (equal_any _ _ n n cI c p p _ (I9.out.keep hbb) (P9.out.keep hbb)).mono ?_
  rintro e w' ⟨rfl, rfl⟩
  rw [same_self]
  refine hK.out _ _ hHeld (fun hHeld => ?_)
  try simp only [Act.put, List.getElem_toArray, List.getElem_cons_succ, List.getElem_cons_zero, List.setIfInBounds_toArray, List.set_cons_zero, List.set_cons_succ]
  refine wpAnyH_take (i := 19) (v := .bool true) rfl (by kernel_rfl) (by kernel_rfl) (by kernel_rfl) (fun _ _ _ h => h) (Or.inl ⟨by kernel_rfl, fun w _ => by go_simp⟩) hHeld ?_
  try simp only [Act.put, List.getElem_toArray, List.getElem_cons_succ, List.getElem_cons_zero, List.setIfInBounds_toArray, List.set_cons_zero, List.set_cons_succ]
  refine wpAnyH_take (i := 20) (v := .bool true) rfl (by kernel_rfl) (by kernel_rfl) (by kernel_rfl) (fun _ _ _ h => h) (Or.inl ⟨by kernel_rfl, fun w _ => by go_simp⟩) hHeld ?_
  try simp only [Act.put, List.getElem_toArray, List.getElem_cons_succ, List.getElem_cons_zero, List.setIfInBounds_toArray, List.set_cons_zero, List.set_cons_succ]
  refine wpAnyH_take (i := 21) (v := .slice (some ⟨gO, 0, none⟩) m cO) rfl (by kernel_rfl) (by kernel_rfl) (by kernel_rfl) (fun _ _ _ h => h) (Or.inl ⟨by kernel_rfl, fun w _ => by go_simp⟩) hHeld ?_
  try simp only [Act.put, List.getElem_toArray, List.getElem_cons_succ, List.getElem_cons_zero, List.setIfInBounds_toArray, List.set_cons_zero, List.set_cons_succ]
  refine wpAnyH_take (i := 22) (v := .slice B m d) rfl (by kernel_rfl) (by kernel_rfl) (by kernel_rfl) (fun _ _ _ h => h) (Or.inl ⟨by kernel_rfl, fun w _ => by go_simp⟩) hHeld ?_
  try simp only [Act.put, List.getElem_toArray, List.getElem_cons_succ, List.getElem_cons_zero, List.setIfInBounds_toArray, List.set_cons_zero, List.set_cons_succ]
  refine wpAnyH_ready (rs := [23]) (by kernel_rfl) (by simp) ?_
  refine AllReadyH.cons rfl (fun K hK => ?_) AllReadyH.nil
  go_simp
  go_at_call 18
  refine (equal_any _ _ m m cO d q q _ (O9.out.keep hbb) (Q9.out.keep hbb)).mono ?_
  rintro e w' ⟨rfl, rfl⟩
  rw [same_self]
  refine hK.out _ _ hHeld (fun hHeld => ?_)
  try simp only [Act.put, List.getElem_toArray, List.getElem_cons_succ, List.getElem_cons_zero, List.setIfInBounds_toArray, List.set_cons_zero, List.set_cons_succ]
  refine wpAnyH_take (i := 24) (v := .bool true) rfl (by kernel_rfl) (by kernel_rfl) (by kernel_rfl) (fun _ _ _ h => h) (Or.inl ⟨by kernel_rfl, fun w _ => by go_simp⟩) hHeld ?_
  try simp only [Act.put, List.getElem_toArray, List.getElem_cons_succ, List.getElem_cons_zero, List.setIfInBounds_toArray, List.set_cons_zero, List.set_cons_succ]
  refine wpAnyH_take (i := 25) (v := .bool true) rfl (by kernel_rfl) (by kernel_rfl) (by kernel_rfl) (fun _ _ _ h => h) (Or.inl ⟨by kernel_rfl, fun w _ => by go_simp⟩) hHeld ?_
  try simp only [Act.put, List.getElem_toArray, List.getElem_cons_succ, List.getElem_cons_zero, List.setIfInBounds_toArray, List.set_cons_zero, List.set_cons_succ]
  refine wpAnyH_ready (rs := [26]) (by kernel_rfl) (by simp) ?_
  refine AllReadyH.cons rfl (fun K hK => ?_) AllReadyH.nil
  go_simp
  go_at_call 10
  refine (awake_any _).mono ?_
  rintro e w' ⟨rfl, hb⟩
  have hcc := hbb.trans (hb.mono hbb.size)
  refine hK.out _ _ (HS.out _ hcc) (fun hHeld => ?_)
  try simp only [Act.put, List.getElem_toArray, List.getElem_cons_succ, List.getElem_cons_zero, List.setIfInBounds_toArray, List.set_cons_zero, List.set_cons_succ]
  refine wpAnyH_take (i := 27) (v := .bool true) rfl (by kernel_rfl) (by kernel_rfl) (by kernel_rfl) (fun _ _ _ h => h) (Or.inl ⟨by kernel_rfl, fun w _ => by go_simp⟩) hHeld ?_
  try simp only [Act.put, List.getElem_toArray, List.getElem_cons_succ, List.getElem_cons_zero, List.setIfInBounds_toArray, List.set_cons_zero, List.set_cons_succ]
  refine wpAnyH_take (i := 28) (v := .bool true) rfl (by kernel_rfl) (by kernel_rfl) (by kernel_rfl) (fun _ _ _ h => h) (Or.inl ⟨by kernel_rfl, fun w _ => by go_simp⟩) hHeld ?_
  try simp only [Act.put, List.getElem_toArray, List.getElem_cons_succ, List.getElem_cons_zero, List.setIfInBounds_toArray, List.set_cons_zero, List.set_cons_succ]
  refine wpAnyH_done (by kernel_rfl) ?_ _
  go_wp2_with fail
  go_ret
  exact ⟨rfl, B9.out.trans (hcc.mono B9.out.size)⟩

theorem lawTells (s : Sup) (A B : Option Addr) (n c m d : Nat) (p q : List UInt8) (w : World) (h : Reads8 w A n p) (hnc : n ≤ c) (hcm : c ≤ maxLen) (g : Reads8 w B m q) (hmd : m ≤ d) (hdm : d ≤ maxLen) :
    Calls Try.prog 3 #[sval s, .slice A n c, .slice B m d] w fun e w' => e = .returned (.bool true) ∧ Below w.heap.size w w' := by
  by_cases ho : 200 < n ∨ 200 < m
  · exact tells_long s A B n c m d w (Nat.le_trans hnc hcm) (Nat.le_trans hmd hdm) ho
  · exact tells_in s (best2 p q) (decS p) (encL s) p q (encE s) (decE p) (pickE p q) (slotS (best2 p q).gen.toNat : Int) (rightS s) s.gen.toNat A B n c m d w h g (by omega) (by omega) hnc hmd rfl
      (Lib.hid fun w => encode_u s w) (Lib.hid fun w => rencode_u s w) (Lib.hid fun A n c w h h1 h2 => decode_any A n c p w h h1 h2) (Lib.hid fun A n c w h h1 h2 => rdecode_any A n c p w h h1 h2)
      (Lib.hid fun A B n c m d w h g h1 h2 h3 h4 => pick_any A B n c m d p q w h g h1 h2 h3 h4) (Lib.hid fun A B n c m d w h g h1 h2 h3 h4 => rpick_any A B n c m d p q w h g h1 h2 h3 h4)
      (Lib.hid fun w => right_any s w) (Lib.hid fun w => rright_any s w) (Lib.hid fun w => slot_any s.gen w)

end Go.Proofs.Ytfnoeligaapnbaa
