/-
  DirSplit: the law.
-/
import Derived.Test.YtlkmcjjdjbdihaaDrLSb
namespace Go.Proofs.Ytlkmcjjdjbdihaa
open Go.RowKit Go.Maps
set_option linter.unusedVariables false

theorem lawSplit (d : Dir) (A : Option Addr) (n c : Nat) (a : UInt8) (b : UInt16) (w : World) (h : ReadsW w A n d.slots) (hn : n ≤ maxLen) :
    Calls Try.prog 6 #[dval d A n c, .int .u8 (a.toNat : Int), .int .u16 (b.toNat : Int)] w fun e w' => e = .returned (.bool true) ∧ Below w.heap.size w w' := by
  cases hr : rightB d
  · exact split_bad d A n c a.toNat b w h hn (.inl hr)
  · by_cases h0 : b.toNat = 0
    · exact split_bad d A n c a.toNat b w h hn (.inr (.inl ⟨hr, h0⟩))
    · by_cases h4 : 4096 ≤ b.toNat
      · exact split_bad d A n c a.toNat b w h hn (.inr (.inr ⟨hr, h0, h4⟩))
      · have hR := rightB_iff.1 hr
        have hok : okb b = true := by unfold okb; exact decide_eq_true ⟨by omega, by omega⟩
        have hl : n = 2 ^ d.depth.toNat := by rw [← h.1, hR.len]
        have hp := pow_pos2 d.depth.toNat
        have hp8 := pow8 hR.le
        have hd8 := hR.le
        obtain ⟨bd, od, rfl, _, _⟩ := h.getD (k := 0) (by omega)
        obtain ⟨s, hs⟩ : ∃ s, s = a.toNat % n := ⟨_, rfl⟩
        have hsn : s < n := by rw [hs]; exact Nat.mod_lt _ (by omega)
        have hsD : s < 2 ^ d.depth.toNat := by omega
        have la := UInt8.toNat_lt a
        have e1 : (a.toNat : Int) % (n : Int) = (s : Int) := by rw [hs]; rfl
        obtain ⟨k, hk, hf⟩ := hR.fit s hsD
        by_cases hex : ∃ i, i < n ∧ at_ d.slots i = b
        · exact split_has d _ n c a.toNat s k b w h hn (Lib.hid hr) (Lib.hid hR) ⟨h0, h4⟩ la hd8 (by omega) (by omega) e1 hsn (Lib.hid hsD) (Lib.hid hk) (Lib.hid hf) (Lib.hid hex)
        · have hb : ∀ i, i < n → at_ d.slots i ≠ b := fun i hi e => hex ⟨i, hi, e⟩
          have hb2 : ∀ i, i < 2 ^ d.depth.toNat → at_ d.slots i ≠ b := fun i hi => hb i (by omega)
          by_cases hkd : k = d.depth.toNat
          · refine split_full d bd od n c a.toNat s k b w h hn (Lib.hid hr) (Lib.hid hR) ⟨h0, h4⟩ la hd8 (by omega) (by omega) e1 hsn (Lib.hid hsD) (Lib.hid hk) (Lib.hid hf) (Lib.hid hb) (Lib.hid hkd) (Lib.hid ?_)
            unfold pointE
            rw [hr, if_pos rfl, if_neg]
            intro hPO
            unfold PointOk at hPO
            have := hPO.2.2.2.1
            omega
          · have hlt : k < d.depth.toNat := by omega
            have hPR := split_right hR hsD hlt hf hb2 hok
            have hPr := right_of hPR
            obtain ⟨e, he⟩ : ∃ e, e = d.depth.toNat - (k + 1) := ⟨_, rfl⟩
            have hm1 := split_mine hR hsD hlt hf hb2 s hsD rfl
            obtain ⟨f1, f2, _⟩ := bucket_fit hPR hsD (show k + 1 ≤ d.depth.toNat by omega) hm1
            obtain ⟨q, hq⟩ : ∃ q, q = (s / 2 ^ e * 2 ^ e ^^^ 2 ^ e) := ⟨_, rfl⟩
            have hqD : q < 2 ^ d.depth.toNat := by rw [hq, he]; exact bud_lt hsD (by omega) (by omega)
            have hae : s / 2 ^ e * 2 ^ e / 2 ^ e = s / 2 ^ e := Nat.mul_div_cancel _ (pow_pos2 e)
            have hq1 : q / 2 ^ e ≠ s / 2 ^ e := by
              rw [hq]
              have := flip_at (s / 2 ^ e * 2 ^ e) e
              rwa [hae] at this
            have hq2 : q / 2 ^ (d.depth.toNat - k) = s / 2 ^ (d.depth.toNat - k) := by
              rw [show d.depth.toNat - k = e + 1 by omega, hq, flip_up _ e (e + 1) (by omega), Nat.pow_succ, ← Nat.div_div_eq_div_mul, ← Nat.div_div_eq_div_mul, hae]
            have hg : at_ d.slots q = at_ d.slots s := (hf q hqD).2 hq2
            have hPs : at_ (pointD d (s : Int) ((k + 1 : Nat) : Int) b).slots s = b := by rw [split_at hR s hsD, if_pos rfl]
            have hPq : at_ (pointD d (s : Int) ((k + 1 : Nat) : Int) b).slots q = at_ d.slots s := by rw [split_at hR q hqD, ← he, if_neg hq1, hg]
            have hbk := split_back hR hsD hlt hf hb2
            have hE : pointE d (s : Int) ((k + 1 : Nat) : Int) b = 0 := by
              unfold pointE
              rw [hr, if_pos rfl, if_pos, hPr, if_pos rfl]
              exact ⟨by omega, by rw [hR.len]; omega, by omega, by omega, hok⟩
            have hE2 : pointE (pointD d (s : Int) ((k + 1 : Nat) : Int) b) (s : Int) ((k + 1 : Nat) : Int) (at_ d.slots s) = 0 := by
              unfold pointE
              rw [hPr, if_pos rfl, hbk, if_pos, hr, if_pos rfl]
              refine ⟨by omega, by rw [hPR.len]; omega, by omega, ?_, hR.ok s hsD⟩
              show (((k + 1 : Nat) : Int)) ≤ ((d.depth.toNat : Nat) : Int)
              omega
            refine split_good d bd od n c a.toNat s k (k + 1) (2 ^ e) q (s / 2 ^ e * 2 ^ e) b w h hn (Lib.hid hr) (Lib.hid hR) ⟨h0, h4⟩ la hd8 (by omega) (by omega) e1 hsn (Lib.hid hsD) (Lib.hid hk) (Lib.hid hf) (Lib.hid hb) (Lib.hid hlt)
              (pointD d (s : Int) ((k + 1 : Nat) : Int) b) (Lib.hid rfl) (Lib.hid hE) (Lib.hid rfl) (Lib.hid hPr) (Lib.hid hPR) (Lib.hid (by rw [hPR.len, hl])) (Lib.hid f1) (Lib.hid (by rw [he]; exact f2))
              (Lib.hid fun w => ?_) (by omega) (Lib.hid hqD) (Lib.hid hPs) (Lib.hid hPq) (Lib.hid hm1) (Lib.hid (split_other hR hsD hlt hf hb2 q hqD (by rw [← he]; exact hq1) hg)) (Lib.hid hlt) (Lib.hid hE2) (Lib.hid hbk) (Lib.hid fun j hj => ?_) ?_
            · have := buddy_ok s (k + 1) d.depth.toNat w (by omega) (by omega) hd8 hsD
              rw [← he, ← hq] at this
              exact this
            · rw [split_at hR j (by omega), ← he, in_block (pow_pos2 e)]
              by_cases hj2 : j / 2 ^ e = s / 2 ^ e
              · rw [if_pos hj2]
                exact ⟨fun _ => hj2, fun _ => (hb j hj).symm⟩
              · rw [if_neg hj2]
                exact ⟨fun g => absurd rfl g, fun g => absurd g hj2⟩
            · have := alike_le hsD (show k + 1 ≤ d.depth.toNat by omega)
              rw [← he] at this
              omega

end Go.Proofs.Ytlkmcjjdjbdihaa
