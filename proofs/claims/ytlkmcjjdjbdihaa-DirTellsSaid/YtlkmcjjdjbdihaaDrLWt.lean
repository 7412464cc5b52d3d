/-
  DirWrong: the law.
-/
import Derived.Test.YtlkmcjjdjbdihaaDrLWs
namespace Go.Proofs.Ytlkmcjjdjbdihaa
open Go.RowKit Go.Maps
set_option linter.unusedVariables false

theorem bucket_fit {d : Dir} {D s k : Nat} (hR : RightD d D) (hs : s < 2 ^ D) (hk : k ≤ D) (hf : Fits d.slots D s k) : bucketE d (s : Int) = 0 ∧ (bucketL d (s : Int)).length = 2 ^ (D - k) ∧ bucketR d (s : Int) = (s / 2 ^ (D - k) * 2 ^ (D - k), s / 2 ^ (D - k) * 2 ^ (D - k) + 2 ^ (D - k)) := by
  have hr : rightB d = true := right_of hR
  have hin : (0 : Int) ≤ (s : Int) ∧ (s : Int) < (d.slots.length : Int) := by rw [hR.len]; exact ⟨by omega, Int.ofNat_lt.2 hs⟩
  have e : bucketR d (s : Int) = (s / 2 ^ (D - k) * 2 ^ (D - k), s / 2 ^ (D - k) * 2 ^ (D - k) + 2 ^ (D - k)) := by
    unfold bucketR
    rw [hr, if_pos ⟨rfl, hin⟩]
    exact runOf_spec hR.len hs hk hf
  refine ⟨?_, ?_, e⟩
  · unfold bucketE
    rw [hr, if_pos rfl, if_pos hin]
  · unfold bucketL
    rw [slotsR_length, e]
    exact Nat.add_sub_cancel_left _ _
theorem pow_one {j : Nat} : 2 ^ j = 1 ↔ j = 0 := by
  constructor
  · intro h
    false_or_by_contra
    rename_i h0
    have := Nat.pow_le_pow_right (show 0 < 2 by omega) (show 1 ≤ j by omega)
    omega
  · intro h; rw [h]

theorem lawWrong (d : Dir) (A : Option Addr) (n c : Nat) (a b : UInt8) (w : World) (h : ReadsW w A n d.slots) (hn : n ≤ maxLen) :
    Calls Try.prog 8 #[dval d A n c, .int .u8 (a.toNat : Int), .int .u8 (b.toNat : Int)] w fun e w' => e = .returned (.bool true) ∧ Below w.heap.size w w' := by
  by_cases h256 : 256 < n
  · exact wrong_long d A n c a b w h hn h256
  · cases hr : rightB d
    · exact wrong_bad d A n c a b w h (by omega) hr
    · have hR := rightB_iff.1 hr
      obtain ⟨D, hD⟩ : ∃ D, D = d.depth.toNat := ⟨_, rfl⟩
      rw [← hD] at hR
      have hl : n = 2 ^ D := by rw [← h.1, hR.len]
      have hp := pow_pos2 D
      obtain ⟨bd, od, rfl, _, _⟩ := h.getD (k := 0) (by omega)
      obtain ⟨i, hi⟩ : ∃ i, i = a.toNat % n := ⟨_, rfl⟩
      obtain ⟨k, hk⟩ : ∃ k, k = b.toNat % n := ⟨_, rfl⟩
      have hin : i < n := by rw [hi]; exact Nat.mod_lt _ (by omega)
      have hkn : k < n := by rw [hk]; exact Nat.mod_lt _ (by omega)
      obtain ⟨ki, hki, fi⟩ := hR.fit i (by omega)
      obtain ⟨kk, hkk, fk⟩ := hR.fit k (by omega)
      obtain ⟨x1, x2, _⟩ := bucket_fit hR (by omega) hki fi
      obtain ⟨y1, y2, _⟩ := bucket_fit hR (by omega) hkk fk
      have la := UInt8.toNat_lt a
      have lb := UInt8.toNat_lt b
      have i2 : i / 2 ≤ i := Nat.div_le_self i 2
      have k2 : k / 2 ≤ k := Nat.div_le_self k 2
      refine wrong_good d bd od n c a.toNat b.toNat i k (2 ^ (D - ki)) (2 ^ (D - kk)) (i / 2) (k / 2) w h (Lib.hid hr) (Lib.hid x1) (Lib.hid y1) (Lib.hid x2) (Lib.hid y2) (by rw [hi]; rfl) (by rw [hk]; rfl) la lb (by omega) (by omega) hin hkn rfl rfl (by omega) (by omega) (Lib.hid fun hne => ?_)
      rw [wrong_law hR (by omega) (by omega) hne hki hkk fi fk]
      simp only [pow_one]

end Go.Proofs.Ytlkmcjjdjbdihaa
