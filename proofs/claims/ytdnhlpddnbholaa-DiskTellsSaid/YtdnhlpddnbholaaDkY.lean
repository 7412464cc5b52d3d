/-
  The document's disk: through, noughts, stands, New, Arm.
-/
import Derived.Test.YtdnhlpddnbholaaDkX
namespace Go.Proofs.Ytdnhlpddnbholaa
open Go.RowKit
set_option linter.unusedVariables false
set_option linter.unusedSimpArgs false
attribute [local go_sem ↓] Go.wp_at_zero Go.wp_at_succ

section
variable {F : Nat → Prop} {r : Nat} {D : Dk} {C : List (Nat × List UInt8)}

/-- The head's last two cells turn. -/
theorem RefIn.headset {w w' : World} {Ac : Option Addr} {cc : Nat} {Aw : Option Addr} {wc : Nat} {D' : Dk} (h : RefIn F w r Ac cc Aw wc D C) (ht : Turn (fun b => b = r) w w') (hb : D'.blks = D.blks) (hw : D'.waits = D.waits) (hk : D'.Ok)
    (hm : MemC w' r 0 [.int .i64 (D.blks.length : Int), .slice Ac C.length cc, .slice Aw D.waits.length wc, .int .i64 D'.left, .bool D'.down]) : RefIn F w' r Ac cc Aw wc D' C :=
  ⟨hk, by rw [hb, hw]; exact hm, h.came.turn ht (fun a e => (h.fc a e).2.1), by rw [hw]; exact h.waits.turn ht (fun a e => (h.fw a e).2.1), h.ccap, h.ccm, by rw [hw]; exact h.wcap, h.wcm, h.cok, by rw [hb]; exact h.agree, h.few, h.fr,
    fun a e => ⟨(h.fc a e).1, (h.fc a e).2.1, Nat.lt_of_lt_of_le (h.fc a e).2.2 ht.size⟩, fun a e => ⟨(h.fw a e).1, (h.fw a e).2.1, Nat.lt_of_lt_of_le (h.fw a e).2.2 ht.size⟩, fun b hB => h.new b (Nat.le_trans ht.size hB)⟩

set_option maxRecDepth 20000 in
theorem through_any (w : World) (h : RefAt F w r D C) : Calls Try.prog 43 #[.pointer (some ⟨r, 0, none⟩)] w fun e w' => e = .returned (.bool (!(powerE D == 20))) ∧ RefAt F w' r (powered D) C ∧ Turn (fun b => b = r) w w' := by
  obtain ⟨Ac, cc, Aw, wc, h⟩ := h
  obtain ⟨h3, f3⟩ := h.head.get 3 _ rfl
  obtain ⟨h4, f4⟩ := h.head.get 4 _ rfl
  have hlo := h.ok.lo
  have hhi := h.ok.hi
  have ok := powered_ok h.ok
  have HK := Lib.hid ok
  have HI := Lib.hid h
  clear h ok
  unfold powerE
  by_cases hz : D.left = 0
  · have ep : powered D = { D with left := -1, down := true } := by unfold powered; rw [if_neg (by omega), if_pos hz]
    rw [if_pos hz]
    have EP := Lib.hid ep
    rw [hz] at h3
    clear ep hz
    go_enter Try.func43, Try.ntmps43
    go_wp2
    go_ret
    have ht := (Turn.set (F := fun b => b = r) (i := 3) w rfl (.int .i64 (-1))).trans (Turn.set (F := fun b => b = r) (i := 4) _ rfl (.bool true))
    refine ⟨rfl, ⟨Ac, cc, Aw, wc, ?_⟩, ht⟩
    refine HI.out.headset ht (powered_keeps D).1 (powered_keeps D).2 HK.out ?_
    rw [EP.out]
    exact (HI.out.head.setAt 3 (by simp) (.int .i64 (-1))).setAt 4 (by simp) (.bool true)
  rw [if_neg hz]
  by_cases hn : 0 < D.left
  · have ep : powered D = { D with left := D.left - 1 } := by unfold powered; rw [if_neg (by omega), if_neg hz]
    have EP := Lib.hid ep
    have wl : IntKind.i64.wrap (D.left - 1) = D.left - 1 := IntWalk.i64_in _ (by omega)
    clear ep
    go_enter Try.func43, Try.ntmps43
    go_wp2
    go_ret
    have ht := Turn.set (F := fun b => b = r) (i := 3) w rfl (.int .i64 (D.left - 1))
    refine ⟨rfl, ⟨Ac, cc, Aw, wc, ?_⟩, ht⟩
    refine HI.out.headset ht (powered_keeps D).1 (powered_keeps D).2 HK.out ?_
    rw [EP.out]
    exact HI.out.head.setAt 3 (by simp) (.int .i64 (D.left - 1))
  · have ep : powered D = D := by unfold powered; rw [if_pos (by omega)]
    rw [ep]
    clear HK ep
    go_enter Try.func43, Try.ntmps43
    go_wp2
    go_ret
    exact ⟨rfl, ⟨Ac, cc, Aw, wc, HI.out⟩, Turn.refl _ _⟩

theorem arm_ref (w : World) (h : RefAt F w r D C) (n : Int) (hn : n ≤ 9223372036854775807) : Calls Try.prog 36 #[.pointer (some ⟨r, 0, none⟩), .int .i64 n] w fun e w' => e = .returned (.int .i64 (armE D n)) ∧ RefAt F w' r (armed D n) C ∧ Turn (fun b => b = r) w w' := by
  obtain ⟨Ac, cc, Aw, wc, h⟩ := h
  obtain ⟨h3, f3⟩ := h.head.get 3 _ rfl
  obtain ⟨h4, f4⟩ := h.head.get 4 _ rfl
  have ok := armed_ok h.ok n hn
  have HK := Lib.hid ok
  have HI := Lib.hid h
  clear h ok
  have HA : Hid (armed D n = if D.down = true then D else if n < 0 then D else { D with left := n }) := Lib.hid rfl
  unfold armE
  cases hd : D.down
  · rw [if_neg (by decide)]
    rw [hd] at h4
    by_cases h0 : n < 0
    · rw [if_pos h0]
      have ea : armed D n = D := by rw [HA.out, if_neg (by rw [hd]; decide), if_pos h0]
      rw [ea]
      clear HK ea hd
      go_enter Try.func36, Try.ntmps36
      go_wp2
      go_ret
      exact ⟨rfl, ⟨Ac, cc, Aw, wc, HI.out⟩, Turn.refl _ _⟩
    · rw [if_neg h0]
      have ea : armed D n = { D with left := n } := by rw [HA.out, if_neg (by rw [hd]; decide), if_neg h0]
      have EA := Lib.hid ea
      have HDN := Lib.hid hd
      clear ea hd HA
      go_enter Try.func36, Try.ntmps36
      go_wp2
      go_ret
      have ht := Turn.set (F := fun b => b = r) (i := 3) w rfl (.int .i64 n)
      refine ⟨rfl, ⟨Ac, cc, Aw, wc, ?_⟩, ht⟩
      refine HI.out.headset ht (by rw [EA.out]) (by rw [EA.out]) HK.out ?_
      rw [EA.out]
      exact HI.out.head.setAt 3 (by simp) (.int .i64 n)
  · rw [if_pos rfl]
    rw [hd] at h4
    have ea : armed D n = D := by rw [HA.out, if_pos hd]
    rw [ea]
    clear HK ea hd
    go_enter Try.func36, Try.ntmps36
    go_wp2
    go_ret
    exact ⟨rfl, ⟨Ac, cc, Aw, wc, HI.out⟩, Turn.refl _ _⟩
end

end Go.Proofs.Ytdnhlpddnbholaa
