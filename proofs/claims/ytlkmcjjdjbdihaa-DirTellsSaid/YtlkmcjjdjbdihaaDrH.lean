/-
  dir.Double, Halve.
-/
import Derived.Test.YtlkmcjjdjbdihaaDrG
import Derived.Test.YtlkmcjjdjbdihaaDrE
namespace Go.Proofs.Ytlkmcjjdjbdihaa
open Go.RowKit Go.Maps
set_option linter.unusedVariables false
attribute [local go_sem ↓] Go.wp_at_zero Go.wp_at_succ

def dzero : Value := .agg #[.int .u8 0, .slice none 0 0]
def doubleD (d : Dir) : Dir := ⟨d.depth + 1, toldL (fun i => at_ d.slots (i / 2)) (2 ^ (d.depth.toNat + 1))⟩
def doubleE (d : Dir) : Int := if rightB d = true then (if d.depth.toNat = 8 then 171 else 0) else 170
def halveD (d : Dir) : Dir := ⟨d.depth - 1, toldL (fun i => at_ d.slots (2 * i)) (2 ^ (d.depth.toNat - 1))⟩
def halveE (d : Dir) : Int := if rightB d = true then (if (runsFrom d.slots 0).any singleB = true then 171 else 0) else 170

/-- What comes back of a call that makes a directory: one in memory of its own; or nothing. -/
def RetD (w w' : World) (d : Dir) (E : Int) (e : Ending) : Prop :=
  (E = 0 ∧ ∃ v, e = .returned (.tuple #[.agg #[.int .u8 (d.depth.toNat : Int), v], .int .i64 0]) ∧ FreshW w w' v d.slots) ∨ (E ≠ 0 ∧ e = .returned (.tuple #[dzero, .int .i64 E]) ∧ Below w.heap.size w w')

theorem FreshW.set2 {w w0 X : World} {v : Value} {l : List UInt16} {R : Nat} (h : FreshW w0 X v l) (hb : Below w.heap.size w w0) (hR : w.heap.size ≤ R) (hR2 : R < w0.heap.size) (a b : Value) : FreshW w ((X.setCell ⟨R, 0, none⟩ a).setCell ⟨R, 1, none⟩ b) v l := by
  obtain ⟨g, c, e, hg, hm, h1, h2, hb2⟩ := h
  have ho := (Only.set X R R 0 a).trans (Only.set _ R R 1 b)
  exact ⟨g, c, e, Nat.le_trans hb.size hg, hm.only ho (by omega) (by omega), h1, h2, (hb.trans (hb2.mono hb.size)).trans (ho.below hR hR)⟩

set_option maxHeartbeats 2000000 in
set_option maxRecDepth 100000 in
theorem double_any (d : Dir) (A : Option Addr) (n c : Nat) (w : World) (h : ReadsW w A n d.slots) (hn : n ≤ maxLen) :
    Calls Try.prog 22 #[dval d A n c] w fun e w' => RetD w w' (doubleD d) (doubleE d) e := by
  have HL := Lib.hid h.1
  have HR := Lib.hid h; clear h
  obtain ⟨W0, hW0⟩ : ∃ W0 : World, W0 = w.alloc (.cells #[.int .u8 (d.depth.toNat : Int), .slice A n c] 24) := ⟨_, rfl⟩
  obtain ⟨W1, hW1⟩ : ∃ W1 : World, W1 = W0.alloc (.cells #[.int .u8 0, .slice none 0 0] 24) := ⟨_, rfl⟩
  have b0 : Below w.heap.size w W0 := by rw [hW0]; exact (Below.refl _ w).alloc (Nat.le_refl _) _
  have b1 : Below W0.heap.size W0 W1 := by rw [hW1]; exact (Below.refl _ _).alloc (Nat.le_refl _) _
  have z0 : W0.heap.size = w.heap.size + 1 := by rw [hW0]; simp
  have s0 : BoxD W0 w.heap.size d A n c := by rw [hW0]; exact BoxD.new w d A n c HR.out
  have q1 : MemC W1 (w.heap.size + 1) 0 [.int .u8 0, .slice none 0 0] := by rw [hW1, ← z0]; exact MemC.new W0 [.int .u8 0, .slice none 0 0] 24
  have B1 := Lib.hid (b0.trans (b1.mono b0.size))
  have S1 := Lib.hid (s0.keep b1)
  have Q1 := Lib.hid q1
  have HW : Hid (W1 = (w.alloc (.cells #[.int .u8 (d.depth.toNat : Int), .slice A n c] 24)).alloc (.cells #[.int .u8 0, .slice none 0 0] 24)) := Lib.hid (by rw [hW1, hW0])
  clear b0 b1 z0 s0 q1 hW0 hW1
  obtain ⟨a0, a1⟩ := S1.out.cells
  have hmf : ∀ (fn : Fn) (first cap : Array Value) (w : World), (Instr.makeFunc fn first cap).run Try.prog w = .ok (.func fn first cap) w := fun _ _ _ _ => rfl
  unfold dval
  go_enter Try.func22, Try.ntmps22
  go_upto_region 1 with fail
  rw [← HW.out]
  clear HW
  go_wp2_with fail
  rw [dval_eq]
  refine (right_any d A n c _ S1.out.rd hn).mono ?_
  rintro e w3 ⟨rfl, hb⟩
  have B3 := Lib.hid (B1.out.trans (hb.mono B1.out.size))
  have S3 := Lib.hid (S1.out.keep hb)
  have Q3 := Lib.hid (Q1.out.keep hb)
  clear hb a0 a1 B1 S1 Q1
  obtain ⟨a0, a1⟩ := S3.out.cells
  obtain ⟨q0, _⟩ := Q3.out.get 0 _ rfl
  obtain ⟨q1, _⟩ := Q3.out.get 1 _ rfl
  have hfin : ∀ W, Below w.heap.size w W → ∀ u v, Below w.heap.size w ((W.setCell ⟨w.heap.size + 1, 0, none⟩ u).setCell ⟨w.heap.size + 1, 1, none⟩ v) := fun W hW u v => (hW.setCell (p := ⟨w.heap.size + 1, 0, none⟩) (by simp) _).setCell (p := ⟨w.heap.size + 1, 1, none⟩) (by simp) _
  have HFN := Lib.hid hfin; clear hfin
  cases hr : rightB d
  · have HF : Hid (doubleE d = 170) := Lib.hid (by unfold doubleE; rw [hr]; rfl)
    clear hr
    go_wp2_with fail
    refine bodyPost_ret (v := .tuple #[dzero, .int .i64 170]) (by simp [results, Try.results22, go_sem, q0, q1, dzero]) rfl (.inr ⟨by rw [HF.out]; decide, by rw [HF.out], HFN.out _ B3.out _ _⟩)
  · have HRT := Lib.hid (rightB_iff.1 hr)
    obtain ⟨k, hk⟩ : ∃ k, k = d.depth.toNat := ⟨_, rfl⟩
    rw [← hk] at a0
    have HK := Lib.hid hk
    have hk8 : k ≤ 8 := by rw [hk]; exact HRT.out.le
    by_cases h8 : k = 8
    · have HF : Hid (doubleE d = 171) := Lib.hid (by unfold doubleE; rw [hr, ← hk, h8]; rfl)
      subst h8
      clear hr hk
      go_wp2_with fail
      refine bodyPost_ret (v := .tuple #[dzero, .int .i64 171]) (by simp [results, Try.results22, go_sem, q0, q1, dzero]) rfl (.inr ⟨by rw [HF.out]; decide, by rw [HF.out], HFN.out _ B3.out _ _⟩)
    · have HF : Hid (doubleE d = 0) := Lib.hid (by unfold doubleE; rw [hr, ← hk, if_pos rfl, if_neg h8])
      have h8i : ((k : Int) == 8) = false := beq_eq_false_iff_ne.2 (by omega)
      have hu : IntKind.u8.wrap ((k : Int) + 1) = ((k + 1 : Nat) : Int) := by rw [IntWalk.u8_in _ (by omega)]; rfl
      have hu2 : ((k : Int) + 1) % 256 = ((k + 1 : Nat) : Int) := by omega
      have hlen : n = 2 ^ k := by rw [← HL.out, hk]; exact HRT.out.len
      have hidx : ∀ i, i < 2 ^ (k + 1) → i / 2 < n := fun i hi => by rw [hlen]; rw [Nat.pow_succ] at hi; omega
      have HID := Lib.hid hidx
      have hfd : doubleD d = ⟨d.depth + 1, toldL (fun i => at_ d.slots (i / 2)) (2 ^ (k + 1))⟩ := by unfold doubleD; rw [← hk]
      have hdp : (d.depth + 1).toNat = k + 1 := by rw [hk]; have := HRT.out.le; have := hk; rw [UInt8.toNat_add]; show (d.depth.toNat + 1) % 256 = _; omega
      have HFD := Lib.hid hfd
      have HDP := Lib.hid hdp
      have hZ : Hid (w.heap.size + 1 < w3.heap.size) := Lib.hid Q3.out.at_.lt
      clear hr hk hlen hidx hfd hdp
      obtain ⟨z, hz⟩ : ∃ z : Int, z = ((k + 1 : Nat) : Int) := ⟨_, rfl⟩
      rw [← hz] at hu hu2
      have HZ9 := Lib.hid hz; clear hz
      go_wp2_with fail
      rw [HZ9.out]
      refine (told_double d A n c w.heap.size (k + 1) _ S3.out (by omega) HID.out).mono ?_
      rintro e w4 ⟨v, rfl, hF⟩
      rw [← HZ9.out]
      obtain ⟨g4, c4, rfl, hg4, hm4, hl4, hc4, hb4⟩ := id hF
      have Q4 := Q3.out.keep hb4
      obtain ⟨q0, f0⟩ := Q4.get 0 _ rfl
      obtain ⟨q1, f1⟩ := Q4.get 1 _ rfl
      have HRS : Hid (RetD w ((w4.setCell ⟨w.heap.size + 1, 0, none⟩ (.int .u8 z)).setCell ⟨w.heap.size + 1, 1, none⟩ (.slice (some ⟨g4, 0, none⟩) (toldL (fun i => at_ d.slots (i / 2)) (2 ^ (k + 1))).length c4)) (doubleD d) (doubleE d) (.returned (.tuple #[.agg #[.int .u8 z, .slice (some ⟨g4, 0, none⟩) (toldL (fun i => at_ d.slots (i / 2)) (2 ^ (k + 1))).length c4], .int .i64 0]))) := Lib.hid (by
        refine .inl ⟨HF.out, .slice (some ⟨g4, 0, none⟩) (toldL (fun i => at_ d.slots (i / 2)) (2 ^ (k + 1))).length c4, ?_, ?_⟩
        · rw [HFD.out, HZ9.out]
          show _ = Ending.returned (.tuple #[.agg #[.int .u8 ((d.depth + 1).toNat : Int), _], .int .i64 0])
          rw [HDP.out]
        · rw [HFD.out]
          exact hF.set2 B3.out (by omega) hZ.out _ _)
      generalize (toldL (fun i => at_ d.slots (i / 2)) (2 ^ (k + 1))).length = m4 at *
      clear hF hg4 hm4 hl4 hb4 Q4
      go_wp2_with fail
      exact bodyPost_ret (v := .tuple #[.agg #[.int .u8 z, .slice (some ⟨g4, 0, none⟩) m4 c4], .int .i64 0]) (by simp [results, Try.results22, go_sem, q0, q1]) rfl HRS.out

set_option maxHeartbeats 2000000 in
set_option maxRecDepth 100000 in
theorem halve_any (d : Dir) (A : Option Addr) (n c : Nat) (w : World) (h : ReadsW w A n d.slots) (hn : n ≤ maxLen) :
    Calls Try.prog 24 #[dval d A n c] w fun e w' => RetD w w' (halveD d) (halveE d) e := by
  have HL := Lib.hid h.1
  have HR := Lib.hid h; clear h
  obtain ⟨W0, hW0⟩ : ∃ W0 : World, W0 = w.alloc (.cells #[.int .u8 (d.depth.toNat : Int), .slice A n c] 24) := ⟨_, rfl⟩
  obtain ⟨W1, hW1⟩ : ∃ W1 : World, W1 = W0.alloc (.cells #[.int .u8 0, .slice none 0 0] 24) := ⟨_, rfl⟩
  have b0 : Below w.heap.size w W0 := by rw [hW0]; exact (Below.refl _ w).alloc (Nat.le_refl _) _
  have b1 : Below W0.heap.size W0 W1 := by rw [hW1]; exact (Below.refl _ _).alloc (Nat.le_refl _) _
  have z0 : W0.heap.size = w.heap.size + 1 := by rw [hW0]; simp
  have s0 : BoxD W0 w.heap.size d A n c := by rw [hW0]; exact BoxD.new w d A n c HR.out
  have q1 : MemC W1 (w.heap.size + 1) 0 [.int .u8 0, .slice none 0 0] := by rw [hW1, ← z0]; exact MemC.new W0 [.int .u8 0, .slice none 0 0] 24
  have B1 := Lib.hid (b0.trans (b1.mono b0.size))
  have S1 := Lib.hid (s0.keep b1)
  have Q1 := Lib.hid q1
  have HW : Hid (W1 = (w.alloc (.cells #[.int .u8 (d.depth.toNat : Int), .slice A n c] 24)).alloc (.cells #[.int .u8 0, .slice none 0 0] 24)) := Lib.hid (by rw [hW1, hW0])
  clear b0 b1 z0 s0 q1 hW0 hW1
  obtain ⟨a0, a1⟩ := S1.out.cells
  have hmf : ∀ (fn : Fn) (first cap : Array Value) (w : World), (Instr.makeFunc fn first cap).run Try.prog w = .ok (.func fn first cap) w := fun _ _ _ _ => rfl
  unfold dval
  go_enter Try.func24, Try.ntmps24
  go_upto_region 1 with fail
  rw [← HW.out]
  clear HW
  go_wp2_with fail
  rw [dval_eq]
  refine (right_any d A n c _ S1.out.rd hn).mono ?_
  rintro e w3 ⟨rfl, hb⟩
  have B3 := Lib.hid (B1.out.trans (hb.mono B1.out.size))
  have S3 := Lib.hid (S1.out.keep hb)
  have Q3 := Lib.hid (Q1.out.keep hb)
  clear hb a0 a1 B1 S1 Q1
  obtain ⟨a0, a1⟩ := S3.out.cells
  obtain ⟨q0, _⟩ := Q3.out.get 0 _ rfl
  obtain ⟨q1, _⟩ := Q3.out.get 1 _ rfl
  have hfin : ∀ W, Below w.heap.size w W → ∀ u v, Below w.heap.size w ((W.setCell ⟨w.heap.size + 1, 0, none⟩ u).setCell ⟨w.heap.size + 1, 1, none⟩ v) := fun W hW u v => (hW.setCell (p := ⟨w.heap.size + 1, 0, none⟩) (by simp) _).setCell (p := ⟨w.heap.size + 1, 1, none⟩) (by simp) _
  have HFN := Lib.hid hfin; clear hfin
  cases hr : rightB d
  · have HF : Hid (halveE d = 170) := Lib.hid (by unfold halveE; rw [hr]; rfl)
    clear hr
    go_wp2_with fail
    refine bodyPost_ret (v := .tuple #[dzero, .int .i64 170]) (by simp [results, Try.results24, go_sem, q0, q1, dzero]) rfl (.inr ⟨by rw [HF.out]; decide, by rw [HF.out], HFN.out _ B3.out _ _⟩)
  · have HRT := Lib.hid (rightB_iff.1 hr)
    obtain ⟨k, hk⟩ : ∃ k, k = d.depth.toNat := ⟨_, rfl⟩
    rw [← hk] at a0
    have HK := Lib.hid hk
    have hk8 : k ≤ 8 := by rw [hk]; exact HRT.out.le
    have hlen : n = 2 ^ k := by rw [← HL.out, hk]; exact HRT.out.len
    have hn256 : n ≤ 256 := by rw [hlen]; exact pow8 hk8
    have HLEN := Lib.hid hlen; clear hlen
    have HHE : Hid (halveE d = if (runsFrom d.slots 0).any singleB = true then 171 else 0) := Lib.hid (by unfold halveE; rw [hr]; rfl)
    clear hr hk
    go_wp2_with fail
    refine (runs_any A n c d.slots _ S3.out.rd hn256).mono ?_
    rintro e w4 ⟨v, rfl, hown, hb⟩
    obtain ⟨A4, c4, rfl, hrd, _, _⟩ := own_readsR hown
    have hm : (runsFrom d.slots 0).length ≤ 256 := Nat.le_trans (runs_many d.slots 0) (by rw [HL.out]; omega)
    have hea : ∀ r ∈ runsFrom d.slots 0, r.1 < r.2 ∧ r.2 ≤ 256 := fun r hr => by
      obtain ⟨_, h1, h2, _⟩ := runs_each d.slots 0 r hr
      rw [HL.out] at h2
      omega
    have HEA := Lib.hid hea
    have HRD := Lib.hid hrd
    have B4 := Lib.hid (B3.out.trans (hb.mono B3.out.size))
    have S4 := Lib.hid (S3.out.keep hb)
    have Q4 := Lib.hid (Q3.out.keep hb)
    clear hb hown hrd hea a0 a1 q0 q1 B3 S3 Q3
    obtain ⟨m, hmm⟩ : ∃ m, m = (runsFrom d.slots 0).length := ⟨_, rfl⟩
    rw [← hmm] at HRD hm ⊢
    clear hmm
    go_wp2_with fail
    refine (cfs_any A4 m c4 (runsFrom d.slots 0) _ HRD.out hm HEA.out).mono ?_
    rintro e w5 ⟨rfl, hb⟩
    have B5 := Lib.hid (B4.out.trans (hb.mono B4.out.size))
    have S5 := Lib.hid (S4.out.keep hb)
    have Q5 := Lib.hid (Q4.out.keep hb)
    clear hb B4 S4 Q4
    obtain ⟨a0, a1⟩ := S5.out.cells
    obtain ⟨q0, _⟩ := Q5.out.get 0 _ rfl
    obtain ⟨q1, _⟩ := Q5.out.get 1 _ rfl
    rw [← HK.out] at a0
    cases hany : (runsFrom d.slots 0).any singleB
    case true =>
      have HF : Hid (halveE d = 171) := Lib.hid (by rw [HHE.out, hany]; rfl)
      clear hany
      go_wp2_with fail
      refine bodyPost_ret (v := .tuple #[dzero, .int .i64 171]) (by simp [results, Try.results24, go_sem, q0, q1, dzero]) rfl (.inr ⟨by rw [HF.out]; decide, by rw [HF.out], HFN.out _ B5.out _ _⟩)
    case false =>
      have HF : Hid (halveE d = 0) := Lib.hid (by rw [HHE.out, hany]; rfl)
      have hk1 : 1 ≤ k := by
        false_or_by_contra
        rename_i h0
        have h0 : k = 0 := by omega
        have hl1 : d.slots.length = 1 := by rw [HL.out, HLEN.out, h0]
        obtain ⟨r, hr, h1, h2⟩ := runs_cover d.slots 0 0 (Nat.le_refl _) (by omega)
        obtain ⟨_, h3, h4, _⟩ := runs_each d.slots 0 r hr
        have h5 := List.any_eq_false.1 hany r hr
        unfold singleB at h5
        exact h5 (decide_eq_true (by omega))
      have hu : IntKind.u8.wrap ((k : Int) - 1) = ((k - 1 : Nat) : Int) := by rw [IntWalk.u8_in _ (by omega)]; omega
      have hu2 : ((k : Int) - 1) % 256 = ((k - 1 : Nat) : Int) := by omega
      have hidx : ∀ i, i < 2 ^ (k - 1) → 2 * i < n := fun i hi => by
        rw [HLEN.out]
        have : 2 ^ k = 2 ^ (k - 1) * 2 := by rw [← Nat.pow_succ]; congr 1; show k = k - 1 + 1; omega
        omega
      have HID := Lib.hid hidx
      have hfd : halveD d = ⟨d.depth - 1, toldL (fun i => at_ d.slots (2 * i)) (2 ^ (k - 1))⟩ := by unfold halveD; rw [← HK.out]
      have hdp : (d.depth - 1).toNat = k - 1 := by
        have h1 := HK.out
        rw [UInt8.toNat_sub_of_le _ _ (by rw [UInt8.le_iff_toNat_le]; show 1 ≤ d.depth.toNat; omega)]
        show d.depth.toNat - 1 = _
        omega
      have HFD := Lib.hid hfd
      have HDP := Lib.hid hdp
      have hZ : Hid (w.heap.size + 1 < w5.heap.size) := Lib.hid Q5.out.at_.lt
      clear hany hidx hfd hdp
      obtain ⟨z, hz⟩ : ∃ z : Int, z = ((k - 1 : Nat) : Int) := ⟨_, rfl⟩
      rw [← hz] at hu hu2
      have HZ9 := Lib.hid hz; clear hz
      go_wp2_with fail
      rw [HZ9.out]
      refine (told_halve d A n c w.heap.size (k - 1) _ S5.out (by omega) HID.out).mono ?_
      rintro e w4 ⟨v, rfl, hF⟩
      rw [← HZ9.out]
      obtain ⟨g4, c4, rfl, hg4, hm4, hl4, hc4, hb4⟩ := id hF
      have Q4 := Q5.out.keep hb4
      obtain ⟨q0, f0⟩ := Q4.get 0 _ rfl
      obtain ⟨q1, f1⟩ := Q4.get 1 _ rfl
      have HRS : Hid (RetD w ((w4.setCell ⟨w.heap.size + 1, 0, none⟩ (.int .u8 z)).setCell ⟨w.heap.size + 1, 1, none⟩ (.slice (some ⟨g4, 0, none⟩) (toldL (fun i => at_ d.slots (2 * i)) (2 ^ (k - 1))).length c4)) (halveD d) (halveE d) (.returned (.tuple #[.agg #[.int .u8 z, .slice (some ⟨g4, 0, none⟩) (toldL (fun i => at_ d.slots (2 * i)) (2 ^ (k - 1))).length c4], .int .i64 0]))) := Lib.hid (by
        refine .inl ⟨HF.out, .slice (some ⟨g4, 0, none⟩) (toldL (fun i => at_ d.slots (2 * i)) (2 ^ (k - 1))).length c4, ?_, ?_⟩
        · rw [HFD.out, HZ9.out]
          show _ = Ending.returned (.tuple #[.agg #[.int .u8 ((d.depth - 1).toNat : Int), _], .int .i64 0])
          rw [HDP.out]
        · rw [HFD.out]
          exact hF.set2 B5.out (by omega) hZ.out _ _)
      generalize (toldL (fun i => at_ d.slots (2 * i)) (2 ^ (k - 1))).length = m4 at *
      clear hF hg4 hm4 hl4 hb4 Q4
      go_wp2_with fail
      exact bodyPost_ret (v := .tuple #[.agg #[.int .u8 z, .slice (some ⟨g4, 0, none⟩) m4 c4], .int .i64 0]) (by simp [results, Try.results24, go_sem, q0, q1]) rfl HRS.out

end Go.Proofs.Ytlkmcjjdjbdihaa
