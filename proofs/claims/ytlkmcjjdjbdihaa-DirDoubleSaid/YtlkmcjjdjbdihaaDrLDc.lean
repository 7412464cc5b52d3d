/-
  DirDouble: the law.
-/
import Derived.Test.YtlkmcjjdjbdihaaDrLDb
namespace Go.Proofs.Ytlkmcjjdjbdihaa
open Go.RowKit Go.Maps
set_option linter.unusedVariables false

theorem lawDouble (d : Dir) (A : Option Addr) (n c : Nat) (x : UInt64) (w : World) (h : ReadsW w A n d.slots) (hn : n ≤ maxLen) :
    Calls Try.prog 5 #[dval d A n c, .int .u64 (x.toNat : Int)] w fun e w' => e = .returned (.bool true) ∧ Below w.heap.size w w' := by
  by_cases hE : doubleE d = 0
  · obtain ⟨hr, h8⟩ := double_fine hE
    have hR := rightB_iff.1 hr
    have hle := hR.le
    have hx := UInt64.toNat_lt x
    obtain ⟨D, hD⟩ : ∃ D, D = d.depth.toNat := ⟨_, rfl⟩
    rw [← hD] at hR hle h8
    have ha : slotOf D x < 2 ^ D := slot_lt x.toNat D (by simpa using hx) hle
    have hb : slotOf (D + 1) x < 2 ^ (D + 1) := slot_lt x.toNat (D + 1) (by simpa using hx) (by omega)
    obtain ⟨k, hk, hf⟩ := hR.fit _ ha
    exact dbl_good d (doubleD d) A n c D _ _ k x w h hR (by omega) rfl rfl rfl hk hf ha hb
  · exact dbl_bad d A n c x w h hn hE

end Go.Proofs.Ytlkmcjjdjbdihaa
