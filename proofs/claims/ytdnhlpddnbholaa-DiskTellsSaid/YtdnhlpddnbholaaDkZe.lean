/-
  An operation carried out on both disks: catchmentlow.Carried.
-/
import Derived.Test.YtdnhlpddnbholaaDkZd
namespace Go.Proofs.Ytdnhlpddnbholaa
open Go.RowKit
set_option linter.unusedVariables false
set_option linter.unusedSimpArgs false
attribute [local go_sem ↓] Go.wp_at_zero Go.wp_at_succ

/-- What is left behind an operation. -/
def Went (F : Nat → Prop) (w w' : World) (p q r : Nat) (D : Dk) (C : List (Nat × List UInt8)) : Prop :=
  ∃ D' C', Both F w' p q r D' D' C' ∧ C'.length + D'.waits.length ≤ C.length + D.waits.length + 1 ∧ Turn F w w'
theorem written_waits (D : Dk) (a : Int) (b : List UInt8) : (written D a b).waits.length ≤ D.waits.length + 1 := by
  have hp := (powered_keeps D).2
  unfold written
  split
  · omega
  · split
    · omega
    · split
      · rw [hp]; omega
      · simp
theorem armed_waits (D : Dk) (n : Int) : (armed D n).waits = D.waits := by unfold armed; split <;> (try split) <;> rfl
section
variable {F : Nat → Prop} {p q r : Nat} {D : Dk} {C : List (Nat × List UInt8)}
set_option maxRecDepth 100000 in
set_option maxHeartbeats 4000000 in
theorem carried_write (w : World) (h : Both F w p q r D D C) (x : UInt8) (hx : x.toNat % 5 = 0) (a : Int) (B : Option Addr) (n c : Nat) (bs : List UInt8) (hr : Reads8 w B n bs) (hB : ∀ a, B = some a → ¬ F a.block) (K : Option Addr) (kn kc : Nat) (torn cut : Int) (hfew : C.length + D.waits.length < 900) :
    Calls Try.prog 23 #[.pointer (some ⟨p, 0, none⟩), .pointer (some ⟨r, 0, none⟩), .int .u8 (x.toNat : Int), .int .i64 a, .slice B n c, .agg #[.slice K kn kc, .int .i64 torn, .int .i64 cut]] w fun e w' => e = .returned (.bool true) ∧ Went F w w' p q r D C := by
  have hb : Below w.heap.size w (w.alloc (.cells #[.slice K kn kc, .int .i64 torn, .int .i64 cut] 25)) := (Below.refl _ w).alloc (Nat.le_refl _) _
  have H1 := Lib.hid (h.keep hb)
  have T1 := Lib.hid (Turn.of_below (F := F) hb)
  have tx : (x.toNat : Int).tmod 5 = (0 : Int) := by rw [Int.tmod_eq_emod_of_nonneg (by omega)]; omega
  have tx2 : (x.toNat : Int) % 5 = (0 : Int) := by omega
  have wu : IntKind.u8.wrap (0 : Int) = (0 : Int) := by decide
  clear h hx
  go_enter Try.func23, Try.ntmps23
  go_upto_region 1 with fail
  obtain ⟨w1, hw1⟩ : ∃ W : World, w.alloc (.cells #[.slice K kn kc, .int .i64 torn, .int .i64 cut] 25) = W := ⟨_, rfl⟩
  rw [hw1] at hb H1 T1 ⊢
  clear hw1
  go_upto_region 3 with fail
  have HR := Lib.hid (hr.keep hb)
  have HNB := Lib.hid hB
  have hlen := hr.1
  subst hlen
  clear hr hB hb
  obtain ⟨W, hW⟩ : ∃ V : World, V = w1.drew := ⟨_, rfl⟩
  have bd : Below w1.heap.size w1 W := by rw [hW]; exact (Below.refl w1.heap.size w1).drew
  have HD := Lib.hid (H1.out.keep bd)
  have TD := Lib.hid (T1.out.trans (Turn.of_below bd))
  have RD := Lib.hid (HR.out.keep bd)
  refine wp_region_held_drew (S := fun w' => Reads8 w' B bs.length bs) (by kernel_rfl) (by rw [← hW]; exact RD.out) (fun hHeld => ?_)
  rw [← hW] at hHeld ⊢
  clear hW bd H1 T1 HR
  refine wpAnyH_take (i := 0) (v := .pointer (some ⟨p, 0, none⟩)) rfl (by kernel_rfl) (by kernel_rfl) (by kernel_rfl) (fun _ _ _ h => h) (Or.inl ⟨by kernel_rfl, fun w _ => by go_simp⟩) hHeld ?_
  try simp only [Act.put, List.getElem_toArray, List.getElem_cons_succ, List.getElem_cons_zero, List.setIfInBounds_toArray, List.set_cons_zero, List.set_cons_succ]
  refine wpAnyH_take (i := 1) (v := .int .i64 a) rfl (by kernel_rfl) (by kernel_rfl) (by kernel_rfl) (fun _ _ _ h => h) (Or.inl ⟨by kernel_rfl, fun w _ => by go_simp⟩) hHeld ?_
  try simp only [Act.put, List.getElem_toArray, List.getElem_cons_succ, List.getElem_cons_zero, List.setIfInBounds_toArray, List.set_cons_zero, List.set_cons_succ]
  refine wpAnyH_take (i := 2) (v := .slice B bs.length c) rfl (by kernel_rfl) (by kernel_rfl) (by kernel_rfl) (fun _ _ _ h => h) (Or.inl ⟨by kernel_rfl, fun w _ => by go_simp⟩) hHeld ?_
  try simp only [Act.put, List.getElem_toArray, List.getElem_cons_succ, List.getElem_cons_zero, List.setIfInBounds_toArray, List.set_cons_zero, List.set_cons_succ]
  refine wpAnyH_take (i := 4) (v := .pointer (some ⟨r, 0, none⟩)) rfl (by kernel_rfl) (by kernel_rfl) (by kernel_rfl) (fun _ _ _ h => h) (Or.inl ⟨by kernel_rfl, fun w _ => by go_simp⟩) hHeld ?_
  try simp only [Act.put, List.getElem_toArray, List.getElem_cons_succ, List.getElem_cons_zero, List.setIfInBounds_toArray, List.set_cons_zero, List.set_cons_succ]
  refine wpAnyH_take (i := 5) (v := .int .i64 a) rfl (by kernel_rfl) (by kernel_rfl) (by kernel_rfl) (fun _ _ _ h => h) (Or.inl ⟨by kernel_rfl, fun w _ => by go_simp⟩) hHeld ?_
  try simp only [Act.put, List.getElem_toArray, List.getElem_cons_succ, List.getElem_cons_zero, List.setIfInBounds_toArray, List.set_cons_zero, List.set_cons_succ]
  refine wpAnyH_take (i := 6) (v := .slice B bs.length c) rfl (by kernel_rfl) (by kernel_rfl) (by kernel_rfl) (fun _ _ _ h => h) (Or.inl ⟨by kernel_rfl, fun w _ => by go_simp⟩) hHeld ?_
  try simp only [Act.put, List.getElem_toArray, List.getElem_cons_succ, List.getElem_cons_zero, List.setIfInBounds_toArray, List.set_cons_zero, List.set_cons_succ]
  refine wpAnyH_take (i := 7) (v := .string ⟨bs.toArray⟩) rfl (by kernel_rfl) (by kernel_rfl) (by kernel_rfl) (fun _ _ _ h => h) (Or.inl ⟨by kernel_rfl, fun w h => by have he := conv8 B bs.length c bs w h; go_simp⟩) hHeld ?_
  try simp only [Act.put, List.getElem_toArray, List.getElem_cons_succ, List.getElem_cons_zero, List.setIfInBounds_toArray, List.set_cons_zero, List.set_cons_succ]
  refine wpAnyH_ready (rs := [3]) (by kernel_rfl) (by simp) ?_
  refine AllReadyH.cons rfl (fun K hK => ?_) AllReadyH.nil
  go_simp
  go_at_call 18
  obtain ⟨cd, v, Ac, cc, Aw, wc, hd, hr, n1, n2, n3⟩ := HD.out
  refine (write_any _ hd.tight a B bs.length c bs RD.out (fun a e e2 => HNB.out a e (by rw [e2]; exact hd.fp)) (by omega)).mono ?_
  rintro e w2 ⟨rfl, hd2, ht2⟩
  have H2 := Lib.hid (both_disk hd hr n1 n2 n3 hd2 ht2)
  have T2 := Lib.hid (TD.out.trans (ht2.mono hd.tight_le))
  have R2 := Lib.hid (RD.out.turn ht2 (fun a e h => HNB.out a e (hd.tight_le _ h)))
  clear hd hr n1 n2 n3 hd2 ht2 HD TD RD
  refine hK.out _ _ R2.out (fun hHeld => ?_)
  try simp only [Act.put, List.getElem_toArray, List.getElem_cons_succ, List.getElem_cons_zero, List.setIfInBounds_toArray, List.set_cons_zero, List.set_cons_succ]
  refine wpAnyH_ready (rs := [8]) (by kernel_rfl) (by simp) ?_
  refine AllReadyH.cons rfl (fun K hK => ?_) AllReadyH.nil
  go_simp
  go_at_call 34
  obtain ⟨cd, v, Ac, cc, Aw, wc, hd, hr, n1, n2, n3⟩ := H2.out
  have hww := written_waits D a bs
  have hcall := writeref_any _ hr.tight a bs (by omega)
  refine hcall.mono ?_
  rintro e w3 ⟨rfl, hr2, ht3⟩
  have H3 := Lib.hid (both_ref hd hr n1 n2 n3 hr2 ht3)
  have T3 := Lib.hid (T2.out.trans (ht3.mono fun b hb => by rw [hb]; exact hr.fr))
  have R3 := Lib.hid (R2.out.turn ht3 (fun a e h => HNB.out a e (by rw [h]; exact hr.fr)))
  have HWW := Lib.hid hww
  clear hd hr n1 n2 n3 hr2 ht3 H2 T2 R2 hww
  refine hK.out _ _ R3.out (fun hHeld => ?_)
  try simp only [Act.put, List.getElem_toArray, List.getElem_cons_succ, List.getElem_cons_zero, List.setIfInBounds_toArray, List.set_cons_zero, List.set_cons_succ]
  refine wpAnyH_take (i := 9) (v := .bool true) rfl (by kernel_rfl) (by kernel_rfl) (by kernel_rfl) (fun _ _ _ h => h) (Or.inl ⟨by kernel_rfl, fun w _ => by go_simp⟩) hHeld ?_
  try simp only [Act.put, List.getElem_toArray, List.getElem_cons_succ, List.getElem_cons_zero, List.setIfInBounds_toArray, List.set_cons_zero, List.set_cons_succ]
  refine wpAnyH_take (i := 10) (v := .bool true) rfl (by kernel_rfl) (by kernel_rfl) (by kernel_rfl) (fun _ _ _ h => h) (Or.inl ⟨by kernel_rfl, fun w _ => by go_simp⟩) hHeld ?_
  try simp only [Act.put, List.getElem_toArray, List.getElem_cons_succ, List.getElem_cons_zero, List.setIfInBounds_toArray, List.set_cons_zero, List.set_cons_succ]
  refine wpAnyH_done (by kernel_rfl) ?_ _
  clear hHeld R3
  go_wp2_with fail
  go_ret
  exact ⟨rfl, _, _, H3.out, by have := HWW.out; omega, T3.out⟩

set_option maxRecDepth 100000 in
set_option maxHeartbeats 4000000 in
theorem carried_flush (w : World) (h : Both F w p q r D D C) (x : UInt8) (hx : x.toNat % 5 = 1) (a : Int) (B : Option Addr) (n c : Nat) (K : Option Addr) (kn kc : Nat) (torn cut : Int) (hfew : C.length + D.waits.length < 900) :
    Calls Try.prog 23 #[.pointer (some ⟨p, 0, none⟩), .pointer (some ⟨r, 0, none⟩), .int .u8 (x.toNat : Int), .int .i64 a, .slice B n c, .agg #[.slice K kn kc, .int .i64 torn, .int .i64 cut]] w fun e w' => e = .returned (.bool true) ∧ Went F w w' p q r D C := by
  have hb : Below w.heap.size w (w.alloc (.cells #[.slice K kn kc, .int .i64 torn, .int .i64 cut] 25)) := (Below.refl _ w).alloc (Nat.le_refl _) _
  have H1 := Lib.hid (h.keep hb)
  have T1 := Lib.hid (Turn.of_below (F := F) hb)
  have tx : (x.toNat : Int).tmod 5 = (1 : Int) := by rw [Int.tmod_eq_emod_of_nonneg (by omega)]; omega
  have tx2 : (x.toNat : Int) % 5 = (1 : Int) := by omega
  have wu : IntKind.u8.wrap (1 : Int) = (1 : Int) := by decide
  clear h hx
  go_enter Try.func23, Try.ntmps23
  go_upto_region 1 with fail
  obtain ⟨w1, hw1⟩ : ∃ W : World, w.alloc (.cells #[.slice K kn kc, .int .i64 torn, .int .i64 cut] 25) = W := ⟨_, rfl⟩
  rw [hw1] at hb H1 T1 ⊢
  clear hw1
  go_wp2_with fail
  obtain ⟨cd, v, Ac, cc, Aw, wc, hd, hr, n1, n2, n3⟩ := H1.out
  refine (flush_any _ hd.tight).mono ?_
  rintro e w2 ⟨rfl, hd2, ht2⟩
  have H2 := Lib.hid (both_disk hd hr n1 n2 n3 hd2 ht2)
  have T2 := Lib.hid (T1.out.trans (ht2.mono hd.tight_le))
  clear hd hr n1 n2 n3 hd2 ht2 H1 T1 hb
  go_wp2_with fail
  obtain ⟨cd, v, Ac, cc, Aw, wc, hd, hr, n1, n2, n3⟩ := H2.out
  refine (flushref_any _ hr.tight (by omega)).mono ?_
  rintro e w3 ⟨rfl, ⟨C', hr2, hlen⟩, ht3⟩
  have H3 := Lib.hid (both_ref hd hr n1 n2 n3 hr2 ht3)
  have T3 := Lib.hid (T2.out.trans (ht3.mono fun b hb => by rw [hb]; exact hr.fr))
  have HLN := Lib.hid hlen
  clear hd hr n1 n2 n3 hr2 ht3 H2 T2 hlen
  go_wp2_with fail
  go_ret
  exact ⟨rfl, _, _, H3.out, Nat.le_succ_of_le HLN.out, T3.out⟩

set_option maxRecDepth 100000 in
set_option maxHeartbeats 4000000 in
theorem carried_arm (w : World) (h : Both F w p q r D D C) (x : UInt8) (hx : x.toNat % 5 = 2) (a : Int) (ha1 : -9223372036854775808 ≤ a) (ha2 : a ≤ 9223372036854775807) (B : Option Addr) (n c : Nat) (K : Option Addr) (kn kc : Nat) (torn cut : Int) :
    Calls Try.prog 23 #[.pointer (some ⟨p, 0, none⟩), .pointer (some ⟨r, 0, none⟩), .int .u8 (x.toNat : Int), .int .i64 a, .slice B n c, .agg #[.slice K kn kc, .int .i64 torn, .int .i64 cut]] w fun e w' => e = .returned (.bool true) ∧ Went F w w' p q r D C := by
  have hb : Below w.heap.size w (w.alloc (.cells #[.slice K kn kc, .int .i64 torn, .int .i64 cut] 25)) := (Below.refl _ w).alloc (Nat.le_refl _) _
  have H1 := Lib.hid (h.keep hb)
  have T1 := Lib.hid (Turn.of_below (F := F) hb)
  have tx : (x.toNat : Int).tmod 5 = (2 : Int) := by rw [Int.tmod_eq_emod_of_nonneg (by omega)]; omega
  have tx2 : (x.toNat : Int) % 5 = (2 : Int) := by omega
  have wu : IntKind.u8.wrap (2 : Int) = (2 : Int) := by decide
  clear h hx
  go_enter Try.func23, Try.ntmps23
  go_upto_region 1 with fail
  obtain ⟨w1, hw1⟩ : ∃ W : World, w.alloc (.cells #[.slice K kn kc, .int .i64 torn, .int .i64 cut] 25) = W := ⟨_, rfl⟩
  rw [hw1] at hb H1 T1 ⊢
  clear hw1
  have HA := Lib.hid (And.intro ha1 ha2)
  clear ha1 ha2
  go_wp2_with fail
  obtain ⟨cd, v, Ac, cc, Aw, wc, hd, hr, n1, n2, n3⟩ := H1.out
  refine (arm_any _ hd.tight a HA.out.1 HA.out.2).mono ?_
  rintro e w2 ⟨rfl, hd2, ht2⟩
  have H2 := Lib.hid (both_disk hd hr n1 n2 n3 hd2 ht2)
  have T2 := Lib.hid (T1.out.trans (ht2.mono hd.tight_le))
  clear hd hr n1 n2 n3 hd2 ht2 H1 T1 hb
  go_wp2_with fail
  obtain ⟨cd, v, Ac, cc, Aw, wc, hd, hr, n1, n2, n3⟩ := H2.out
  refine (arm_ref _ hr.tight a HA.out.2).mono ?_
  rintro e w3 ⟨rfl, hr2, ht3⟩
  have H3 := Lib.hid (both_ref hd hr n1 n2 n3 hr2 ht3)
  have T3 := Lib.hid (T2.out.trans (ht3.mono fun b hb => by rw [hb]; exact hr.fr))
  clear hd hr n1 n2 n3 hr2 ht3 H2 T2
  go_wp2_with fail
  go_ret
  exact ⟨rfl, _, _, H3.out, by rw [armed_waits]; omega, T3.out⟩

set_option maxRecDepth 100000 in
set_option maxHeartbeats 4000000 in
theorem carried_crash (w : World) (h : Both F w p q r D D C) (x : UInt8) (hx : x.toNat % 5 = 3) (a : Int) (B : Option Addr) (n c : Nat) (K : Option Addr) (kn kc : Nat) (keep : List Bool) (torn cut : Int) (hkn : keep.length = kn) (hkk : kn ≤ maxLen) (hcs : Cells w K (kcells keep)) (hap : keep = [] ∨ ∀ a, K = some a → ¬ F a.block) (hfew : C.length + D.waits.length < 900) :
    Calls Try.prog 23 #[.pointer (some ⟨p, 0, none⟩), .pointer (some ⟨r, 0, none⟩), .int .u8 (x.toNat : Int), .int .i64 a, .slice B n c, .agg #[.slice K kn kc, .int .i64 torn, .int .i64 cut]] w fun e w' => e = .returned (.bool true) ∧ Went F w w' p q r D C := by
  have hb : Below w.heap.size w (w.alloc (.cells #[.slice K kn kc, .int .i64 torn, .int .i64 cut] 25)) := (Below.refl _ w).alloc (Nat.le_refl _) _
  have H1 := Lib.hid (h.keep hb)
  have T1 := Lib.hid (Turn.of_below (F := F) hb)
  have tx : (x.toNat : Int).tmod 5 = (3 : Int) := by rw [Int.tmod_eq_emod_of_nonneg (by omega)]; omega
  have tx2 : (x.toNat : Int) % 5 = (3 : Int) := by omega
  have wu : IntKind.u8.wrap (3 : Int) = (3 : Int) := by decide
  have HH0 := Lib.hid h
  clear h hx
  go_enter Try.func23, Try.ntmps23
  go_upto_region 1 with fail
  obtain ⟨w1, hw1⟩ : ∃ W : World, w.alloc (.cells #[.slice K kn kc, .int .i64 torn, .int .i64 cut] 25) = W := ⟨_, rfl⟩
  rw [hw1] at hb H1 T1 ⊢
  have hH := HH0.out
  clear HH0
  have HKN := Lib.hid hkn
  have HKK := Lib.hid hkk
  have HKC := Lib.hid (hcs.keep hb)
  have HAP := Lib.hid hap
  have X1 : Hid (MemC w1 w.heap.size 0 [.slice K kn kc, .int .i64 torn, .int .i64 cut]) := Lib.hid (by rw [← hw1]; exact MemC.new w [.slice K kn kc, .int .i64 torn, .int .i64 cut] _)
  have HG := Lib.hid (hH.apart hb (Nat.le_refl _) X1.out.at_.lt)
  obtain ⟨q11, hq11⟩ : ∃ y, y = w.heap.size := ⟨_, rfl⟩
  rw [← hq11] at X1 HG ⊢
  clear hb hkn hkk hcs hap hw1 hH H1 hq11
  go_upto_region 9 with fail
  obtain ⟨W, hW⟩ : ∃ V : World, V = w1.drew := ⟨_, rfl⟩
  have bd : Below w1.heap.size w1 W := by rw [hW]; exact (Below.refl w1.heap.size w1).drew
  have HD := Lib.hid (HG.out.keep bd)
  have TD := Lib.hid (T1.out.trans (Turn.of_below bd))
  have XD := Lib.hid (X1.out.keep bd)
  have CD := Lib.hid (HKC.out.keep bd)
  have hS : ∀ w', MemC w' q11 0 [.slice K kn kc, .int .i64 torn, .int .i64 cut] → w'.cell? ⟨q11, 0, none⟩ = some (.slice K kn kc) ∧ w'.cell? ⟨q11, 1, none⟩ = some (.int .i64 torn) ∧ w'.cell? ⟨q11, 2, none⟩ = some (.int .i64 cut) := fun w' h => ⟨(h.get 0 _ rfl).1, (h.get 1 _ rfl).1, (h.get 2 _ rfl).1⟩
  have HS := Lib.hid hS
  clear hS
  refine wp_region_held_drew (S := fun w' => w'.cell? ⟨q11, 0, none⟩ = some (.slice K kn kc) ∧ w'.cell? ⟨q11, 1, none⟩ = some (.int .i64 torn) ∧ w'.cell? ⟨q11, 2, none⟩ = some (.int .i64 cut)) (by kernel_rfl) (by rw [← hW]; exact HS.out _ XD.out) (fun hHeld => ?_)
  rw [← hW] at hHeld ⊢
  clear hW bd HG T1 X1 HKC
  refine wpAnyH_take (i := 0) (v := .pointer (some ⟨p, 0, none⟩)) rfl (by kernel_rfl) (by kernel_rfl) (by kernel_rfl) (fun _ _ _ h => h) (Or.inl ⟨by kernel_rfl, fun w _ => by go_simp⟩) hHeld ?_
  try simp only [Act.put, List.getElem_toArray, List.getElem_cons_succ, List.getElem_cons_zero, List.setIfInBounds_toArray, List.set_cons_zero, List.set_cons_succ]
  refine wpAnyH_take (i := 1) (v := .agg #[.slice K kn kc, .int .i64 torn, .int .i64 cut]) rfl (by kernel_rfl) (by kernel_rfl) (by kernel_rfl) (fun _ _ _ h => h) (Or.inl ⟨by kernel_rfl, fun w h => by have h0 := h.1; have h1 := h.2.1; have h2 := h.2.2; go_simp⟩) hHeld ?_
  try simp only [Act.put, List.getElem_toArray, List.getElem_cons_succ, List.getElem_cons_zero, List.setIfInBounds_toArray, List.set_cons_zero, List.set_cons_succ]
  refine wpAnyH_take (i := 3) (v := .pointer (some ⟨r, 0, none⟩)) rfl (by kernel_rfl) (by kernel_rfl) (by kernel_rfl) (fun _ _ _ h => h) (Or.inl ⟨by kernel_rfl, fun w _ => by go_simp⟩) hHeld ?_
  try simp only [Act.put, List.getElem_toArray, List.getElem_cons_succ, List.getElem_cons_zero, List.setIfInBounds_toArray, List.set_cons_zero, List.set_cons_succ]
  refine wpAnyH_take (i := 4) (v := .agg #[.slice K kn kc, .int .i64 torn, .int .i64 cut]) rfl (by kernel_rfl) (by kernel_rfl) (by kernel_rfl) (fun _ _ _ h => h) (Or.inl ⟨by kernel_rfl, fun w h => by have h0 := h.1; have h1 := h.2.1; have h2 := h.2.2; go_simp⟩) hHeld ?_
  try simp only [Act.put, List.getElem_toArray, List.getElem_cons_succ, List.getElem_cons_zero, List.setIfInBounds_toArray, List.set_cons_zero, List.set_cons_succ]
  refine wpAnyH_ready (rs := [2]) (by kernel_rfl) (by simp) ?_
  refine AllReadyH.cons rfl (fun K2 hK => ?_) AllReadyH.nil
  go_simp
  go_at_call 11
  obtain ⟨cd, v, Ac, cc, Aw, wc, hd, hr, n1, n2, n3⟩ := HD.out
  refine (crash_any' _ hd.tight K kn kc keep torn cut HKN.out HKK.out CD.out (HAP.out.imp id fun h a e e2 => h a e (by rw [e2]; exact hd.fq.1))).mono ?_
  rintro e w2 ⟨rfl, hd2, ht2⟩
  have H2 := Lib.hid (both_disk hd hr n1 n2 n3 hd2 ht2)
  have hl := hd.tight_le
  have T2 := Lib.hid (TD.out.trans (ht2.mono fun b hb => (hl b hb).1))
  have X2 := Lib.hid (XD.out.turn ht2 (fun h => (hl _ h).2 rfl))
  have C2 := Lib.hid (cells_turn_or CD.out ht2 (HAP.out.imp (fun h => by rw [h]; rfl) fun h a e h2 => h a e (hl _ h2).1))
  clear hd hr n1 n2 n3 hd2 ht2 hl HD TD XD CD
  refine hK.out _ _ (HS.out _ X2.out) (fun hHeld => ?_)
  try simp only [Act.put, List.getElem_toArray, List.getElem_cons_succ, List.getElem_cons_zero, List.setIfInBounds_toArray, List.set_cons_zero, List.set_cons_succ]
  refine wpAnyH_ready (rs := [5]) (by kernel_rfl) (by simp) ?_
  refine AllReadyH.cons rfl (fun K2 hK => ?_) AllReadyH.nil
  go_simp
  go_at_call 37
  obtain ⟨cd, v, Ac, cc, Aw, wc, hd, hr, n1, n2, n3⟩ := H2.out
  refine (crashref_any _ hr.tight K kn kc keep torn cut HKN.out HKK.out C2.out (HAP.out.imp id fun h a e e2 => h a e (by rw [e2]; exact hr.fr.1)) (by omega)).mono ?_
  rintro e w3 ⟨rfl, ⟨C', hr2, hlen⟩, ht3⟩
  have H3 := Lib.hid ((both_ref hd hr n1 n2 n3 hr2 ht3).mono fun b hb => hb.1)
  have T3 := Lib.hid (T2.out.trans (ht3.mono fun b hb => by rw [hb]; exact hr.fr.1))
  have X3 := Lib.hid (X2.out.turn ht3 (fun h => hr.fr.2 h.symm))
  have HLN := Lib.hid hlen
  clear hd hr n1 n2 n3 hr2 ht3 H2 T2 X2 C2 hlen
  refine hK.out _ _ (HS.out _ X3.out) (fun hHeld => ?_)
  try simp only [Act.put, List.getElem_toArray, List.getElem_cons_succ, List.getElem_cons_zero, List.setIfInBounds_toArray, List.set_cons_zero, List.set_cons_succ]
  refine wpAnyH_take (i := 6) (v := .bool true) rfl (by kernel_rfl) (by kernel_rfl) (by kernel_rfl) (fun _ _ _ h => h) (Or.inl ⟨by kernel_rfl, fun w _ => by go_simp⟩) hHeld ?_
  try simp only [Act.put, List.getElem_toArray, List.getElem_cons_succ, List.getElem_cons_zero, List.setIfInBounds_toArray, List.set_cons_zero, List.set_cons_succ]
  refine wpAnyH_take (i := 7) (v := .bool true) rfl (by kernel_rfl) (by kernel_rfl) (by kernel_rfl) (fun _ _ _ h => h) (Or.inl ⟨by kernel_rfl, fun w _ => by go_simp⟩) hHeld ?_
  try simp only [Act.put, List.getElem_toArray, List.getElem_cons_succ, List.getElem_cons_zero, List.setIfInBounds_toArray, List.set_cons_zero, List.set_cons_succ]
  refine wpAnyH_done (by kernel_rfl) ?_ _
  clear hHeld X3 HS
  go_wp2_with fail
  go_ret
  exact ⟨rfl, _, _, H3.out, Nat.le_succ_of_le HLN.out, T3.out⟩

set_option maxRecDepth 100000 in
set_option maxHeartbeats 4000000 in
theorem carried_read (w : World) (h : Both F w p q r D D C) (x : UInt8) (hx : x.toNat % 5 = 4) (a : Int) (B : Option Addr) (n c : Nat) (K : Option Addr) (kn kc : Nat) (torn cut : Int) :
    Calls Try.prog 23 #[.pointer (some ⟨p, 0, none⟩), .pointer (some ⟨r, 0, none⟩), .int .u8 (x.toNat : Int), .int .i64 a, .slice B n c, .agg #[.slice K kn kc, .int .i64 torn, .int .i64 cut]] w fun e w' => e = .returned (.bool true) ∧ Went F w w' p q r D C := by
  have hb : Below w.heap.size w (w.alloc (.cells #[.slice K kn kc, .int .i64 torn, .int .i64 cut] 25)) := (Below.refl _ w).alloc (Nat.le_refl _) _
  have H1 := Lib.hid (h.keep hb)
  have T1 := Lib.hid (Turn.of_below (F := F) hb)
  have tx : (x.toNat : Int).tmod 5 = (4 : Int) := by rw [Int.tmod_eq_emod_of_nonneg (by omega)]; omega
  have tx2 : (x.toNat : Int) % 5 = (4 : Int) := by omega
  have wu : IntKind.u8.wrap (4 : Int) = (4 : Int) := by decide
  clear h hx
  go_enter Try.func23, Try.ntmps23
  go_upto_region 1 with fail
  obtain ⟨w1, hw1⟩ : ∃ W : World, w.alloc (.cells #[.slice K kn kc, .int .i64 torn, .int .i64 cut] 25) = W := ⟨_, rfl⟩
  rw [hw1] at hb H1 T1 ⊢
  clear hw1
  go_wp2_with fail
  obtain ⟨cd, v, Ac, cc, Aw, wc, hd, hr, n1, n2, n3⟩ := H1.out
  refine (read_any _ hd.tight a).mono ?_
  rintro e w2 ⟨A2, m2, c2, rfl, hrd, hnc2, hcm2, _, hb2⟩
  have H2 := Lib.hid (H1.out.keep hb2)
  have T2 := Lib.hid (T1.out.trans (Turn.of_below hb2))
  have R2 := Lib.hid hrd
  clear hd hr n1 n2 n3 hb2 hrd H1 T1 hb
  go_wp2_with fail
  obtain ⟨cd, v, Ac, cc, Aw, wc, hd, hr, n1, n2, n3⟩ := H2.out
  refine (readref_any _ hr.tight a).mono ?_
  rintro e w3 ⟨rfl, hb3⟩
  have H3 := Lib.hid (H2.out.keep hb3)
  have T3 := Lib.hid (T2.out.trans (Turn.of_below hb3))
  have h8 := conv8 A2 m2 c2 _ w3 (R2.out.keep hb3)
  clear hd hr n1 n2 n3 hb3 H2 T2
  go_wp2_with fail
  go_ret
  have hle : C.length + D.waits.length ≤ C.length + D.waits.length + 1 := Nat.le_succ _
  exact ⟨rfl, _, _, H3.out, hle, T3.out⟩
end

end Go.Proofs.Ytdnhlpddnbholaa
