/-
  Disk.Write, all told; Disk.Flush.
-/
import Derived.Test.YtdnhlpddnbholaaDkH
namespace Go.Proofs.Ytdnhlpddnbholaa
open Go.RowKit
set_option linter.unusedVariables false
set_option linter.unusedSimpArgs false
attribute [local go_sem ↓] Go.wp_at_zero Go.wp_at_succ

theorem flushK_same {D E : Dk} (h1 : E.blks = D.blks) (h2 : E.waits = D.waits) : ∀ k, flushK E k = flushK D k
  | 0 => h1
  | k + 1 => by unfold flushK; rw [flushK_same h1 h2 k, h2]

section
variable {F : Nat → Prop} {p q : Nat} {D : Dk}
theorem write_any (w : World) (h : DiskAt F w p q D) (a : Int) (B : Option Addr) (m d : Nat) (b : List UInt8) (hr : Reads8 w B m b) (hap : Apart B p) (hfew : D.waits.length < 1000) :
    Calls Try.prog 18 #[.pointer (some ⟨p, 0, none⟩), .int .i64 a, .slice B m d] w fun e w' => e = .returned (.int .i64 (writeE D a m)) ∧ DiskAt F w' p q (written D a b) ∧ Turn F w w' := by
  have hm := hr.1
  by_cases hd : D.down = true ∨ a < 0 ∨ (D.blks.length : Int) ≤ a ∨ m ≠ 128
  · refine (write_no w h a B m d hd).mono ?_
    rintro e w' ⟨rfl, rfl⟩
    have hw : written D a b = D := by
      unfold written
      rw [hm]
      split
      · rfl
      · rw [if_pos]
        rcases hd with h | h
        · contradiction
        · exact h
    rw [hw]
    exact ⟨rfl, h, Turn.refl _ _⟩
  · have h1 : D.down = false := by
      cases e : D.down
      · rfl
      · exact absurd (.inl e) hd
    have h2 : ¬ (a < 0 ∨ (D.blks.length : Int) ≤ a ∨ m ≠ 128) := fun h => hd (.inr h)
    have h3 : 0 ≤ a ∧ a < (D.blks.length : Int) ∧ m = 128 := by omega
    obtain ⟨k, rfl⟩ : ∃ k : Nat, a = (k : Int) := ⟨a.toNat, by omega⟩
    obtain ⟨h4, h5, rfl⟩ := h3
    have h6 : ¬ ((k : Int) < 0 ∨ (D.blks.length : Int) ≤ (k : Int) ∨ b.length ≠ 128) := by rw [hm]; exact h2
    by_cases hl : D.left = 0
    · rw [show writeE D (k : Int) 128 = 20 by unfold writeE powerE; rw [h1, if_neg (by decide), if_neg h2, if_pos hl], show written D (k : Int) b = powered D by unfold written; rw [h1, if_neg (by decide), if_neg h6, if_pos hl]]
      exact write_dead w h k B d h1 (by omega) hl
    · rw [show writeE D (k : Int) 128 = 0 by unfold writeE powerE; rw [h1, if_neg (by decide), if_neg h2, if_neg hl], show written D (k : Int) b = { powered D with waits := D.waits ++ [(k, b)] } by unfold written; rw [h1, if_neg (by decide), if_neg h6, if_neg hl]; rfl]
      exact write_yes w h k B d b hr hap hfew h1 (by omega) hl

theorem flush_down (w : World) (h : DiskAt F w p q D) (hd : D.down = true) : Calls Try.prog 20 #[.pointer (some ⟨p, 0, none⟩)] w fun e w' => e = .returned (.int .i64 20) ∧ w = w' := by
  have HM := Lib.hid (may_any w h)
  unfold mayE at HM
  rw [hd, if_pos rfl] at HM
  clear h hd
  go_enter Try.func20, Try.ntmps20
  go_wp2_with fail
  refine HM.out.mono ?_
  rintro e w' ⟨rfl, rfl⟩
  go_wp2_with fail
  go_ret
  exact ⟨rfl, rfl⟩

theorem flush_dead (w : World) (h : DiskAt F w p q D) (hd : D.down = false) (hl : D.left = 0) : Calls Try.prog 20 #[.pointer (some ⟨p, 0, none⟩)] w fun e w' => e = .returned (.int .i64 20) ∧ DiskAt F w' p q (powered D) ∧ Turn F w w' := by
  have HM := Lib.hid (may_any w h)
  have HP := Lib.hid (power_any w h)
  unfold mayE at HM
  rw [hd, if_neg (by decide)] at HM
  unfold powerE at HP
  rw [if_pos hl] at HP
  obtain ⟨c, v, h⟩ := h
  have HD := Lib.hid h
  clear h hl hd
  go_enter Try.func20, Try.ntmps20
  go_wp2_with fail
  refine HM.out.mono ?_
  rintro e w' ⟨rfl, rfl⟩
  go_wp2_with fail
  refine HP.out.mono ?_
  rintro e w1 ⟨rfl, _, _, ht, hD⟩
  have HT := Lib.hid ht
  have HX := Lib.hid (hD _ _ _ HD.out)
  clear ht hD
  go_wp2_with fail
  go_ret
  exact ⟨rfl, ⟨_, _, HX.out⟩, HT.out⟩

/-- What waits is let go. -/
theorem DiskIn.empty {w : World} {c : Nat} {v : Value} (h : DiskIn F w p q c v D) (l : Int) (dn : Bool) (hl : -1 ≤ l) (hh : l ≤ 9223372036854775807) {W : World} (ht : Turn (fun k => k = p) w W) (hs : W.heap.size = w.heap.size)
    (hm : MemC W p 0 [.slice (some ⟨q, 0, none⟩) D.blks.length c, .slice none 0 0, .int .i64 l, .bool dn]) : DiskIn F W p q c (.slice none 0 0) ⟨D.blks, [], l, dn⟩ := by
  refine ⟨⟨h.ok.blk, fun x hx => by simp at hx, h.ok.pos, h.ok.many, by simp, hl, hh⟩, hm, h.cap, h.capm, h.blks.turn ht (fun e => h.pq e.symm), ⟨by simp [wcells], .inl ⟨rfl, rfl⟩⟩, h.fp, h.fq, fun g hg => by simp [Value.ownBlock] at hg, by rw [hs]; exact h.new, h.pq, by simp [Value.ownBlock], by simp [Value.ownBlock]⟩

set_option maxRecDepth 100000 in
set_option maxHeartbeats 4000000 in
theorem flush_yes (w : World) (h : DiskAt F w p q D) (hd : D.down = false) (hl : D.left ≠ 0) :
    Calls Try.prog 20 #[.pointer (some ⟨p, 0, none⟩)] w fun e w' => e = .returned (.int .i64 0) ∧ DiskAt F w' p q { powered D with blks := flushK (powered D) (powered D).waits.length, waits := [] } ∧ Turn F w w' := by
  have HM := Lib.hid (may_any w h)
  have HP := Lib.hid (power_any w h)
  unfold mayE at HM
  rw [hd, if_neg (by decide)] at HM
  unfold powerE at HP
  rw [if_neg hl] at HP
  obtain ⟨c, v, h⟩ := h
  have HD := Lib.hid h
  clear h hl
  generalize powered D = E at *
  go_enter Try.func20, Try.ntmps20
  go_wp2_with fail
  refine HM.out.mono ?_
  rintro e w' ⟨rfl, rfl⟩
  go_wp2_with fail
  refine HP.out.mono ?_
  rintro e w1 ⟨rfl, _, _, ht, hD⟩
  have T1 := Lib.hid ht
  have D1 := Lib.hid (hD _ _ _ HD.out)
  clear ht hD HM HP HD hd
  obtain ⟨A, d, rfl, _, hnd, hdm, hcells⟩ := D1.out.slice
  have HC := Lib.hid hcells
  have hfew := D1.out.ok.few
  obtain ⟨h1, _⟩ := D1.out.head.get 1 _ rfl
  clear hcells
  go_wp2_with fail
  clear h1
  go_loopw [23] (fun i wr => ∃ k : Nat, k ≤ E.waits.length ∧ i = .int .i64 (k : Int) ∧ DiskIn F wr p q c (.slice A E.waits.length d) { E with blks := flushK E k } ∧ Turn F w1 wr) (fun i _ => E.waits.length - (intOf i).toNat)
  case atStart => exact ⟨0, Nat.zero_le _, rfl, D1.out, Turn.refl _ _⟩
  case round =>
    obtain ⟨k, hk, rfl, hDk, hT⟩ := hrel
    have DK := Lib.hid hDk
    have TK := Lib.hid hT
    clear hDk hT
    by_cases hlt : k < E.waits.length
    · obtain ⟨A', d', e1, _, _, _, hc⟩ := DK.out.slice
      obtain ⟨g, e2, hmg⟩ := hc (by simpa using (Nat.lt_of_le_of_lt (Nat.zero_le _) hlt))
      injection e1 with e1 e3 e4
      subst e4
      subst e1
      subst e2
      have hw128 : ∀ x ∈ E.waits, x.2.length = 128 := fun x hx => (D1.out.ok.wait x hx).2
      have hat := write_at hw128 hmg.at_ k hlt
      have hyl := getD_length hw128 k
      have hyb := (D1.out.ok.waitAt k hlt).1
      have hfl : flushK E (k + 1) = putB (flushK E k) (E.waits.getD k nW) 128 := rfl
      have hlen := flushK_length E k
      obtain ⟨y, hy⟩ : ∃ y, E.waits.getD k nW = y := ⟨_, rfl⟩
      rw [hy] at hat hyl hyb hfl
      have HAT := Lib.hid hat
      have HFL := Lib.hid hfl
      have HYB := Lib.hid hyb
      have HLN := Lib.hid hlen
      have k0 : (0 : Int) ≤ (k : Int) := by omega
      have k1 : (k : Int) < (E.waits.length : Int) := by omega
      have kw : IntKind.i64.wrap ((k : Int) + 1) = (k : Int) + 1 := IntWalk.i64_in _ (by omega)
      clear hc hmg hw128 hat hyb hfl hlen hy
      go_wp2_with (first | ((with_reducible refine wl_load (.tmp 25) ?_ ?_ g (k * 129) y hyl ?_ HAT.out ?_); rfl; rfl; rfl) | (refine wl_new 6 (.tmp 26) rfl rfl rfl (by rfl) y hyl rfl rfl (by rfl) ?_))
      intro w2 hb2 hm2 hs2
      have D2 := Lib.hid (DK.out.keep hb2)
      have X2 := Lib.hid hm2
      have T2 := Lib.hid (TK.out.trans (Turn.of_below hb2))
      have lq := DK.out.lt.2
      obtain ⟨q6, hq6⟩ : ∃ y, y = wr.heap.size := ⟨_, rfl⟩
      rw [← hq6] at X2 lq ⊢
      have LQ := Lib.hid lq
      clear hb2 hm2 hs2 hq6 HAT DK TK lq
      go_upto_region 10 with fail
      have bd : Below w2.heap.size w2 w2.drew := (Below.refl w2.heap.size w2).drew
      have D4 := Lib.hid (D2.out.keep bd)
      have X4 := Lib.hid (X2.out.keep bd)
      have T4 := Lib.hid (T2.out.trans (Turn.of_below bd))
      obtain ⟨W4, hW4⟩ : ∃ W : World, W = w2.drew := ⟨_, rfl⟩
      rw [← hW4] at D4 X4 T4
      refine wp_region_held_drew (S := fun w' => CellsAt w' q6 0 (wcell y)) (by kernel_rfl) (by rw [← hW4]; exact X4.out.at_) (fun hHeld => ?_)
      rw [← hW4] at hHeld ⊢
      clear hW4 bd D2 X2 T2
      refine wpAnyH_take (i := 0) (v := .pointer (some ⟨p, 0, none⟩)) rfl (by kernel_rfl) (by kernel_rfl) (by kernel_rfl) (fun _ _ _ h => h) (Or.inl ⟨by kernel_rfl, fun w _ => by go_simp⟩) hHeld ?_
      try simp only [Act.put, List.getElem_toArray, List.getElem_cons_succ, List.getElem_cons_zero, List.setIfInBounds_toArray, List.set_cons_zero, List.set_cons_succ]
      refine wpAnyH_take (i := 1) (v := .pointer (some ⟨p, 0, none⟩)) rfl (by kernel_rfl) (by kernel_rfl) (by kernel_rfl) (fun _ _ _ h => h) (Or.inl ⟨by kernel_rfl, fun w _ => by go_simp⟩) hHeld ?_
      try simp only [Act.put, List.getElem_toArray, List.getElem_cons_succ, List.getElem_cons_zero, List.setIfInBounds_toArray, List.set_cons_zero, List.set_cons_succ]
      refine wpAnyH_take (i := 2) (v := .pointer (some ⟨p, 0, none⟩)) rfl (by kernel_rfl) (by kernel_rfl) (by kernel_rfl) (fun _ _ _ h => h) (Or.inl ⟨by kernel_rfl, fun w _ => by go_simp⟩) hHeld ?_
      try simp only [Act.put, List.getElem_toArray, List.getElem_cons_succ, List.getElem_cons_zero, List.setIfInBounds_toArray, List.set_cons_zero, List.set_cons_succ]
      refine wpAnyH_take (i := 3) (v := wval y) rfl (by kernel_rfl) (by kernel_rfl) (by kernel_rfl) (fun _ _ _ h => h) (yieldsIf_load_mid (by rfl) 83 (.tmp 6) rfl q6 0 rfl (wcell y) _ (fun w h => h.rangeO) Try.underlying83 rfl (writeinfo y hyl)) hHeld ?_
      try simp only [Act.put, List.getElem_toArray, List.getElem_cons_succ, List.getElem_cons_zero, List.setIfInBounds_toArray, List.set_cons_zero, List.set_cons_succ]
      refine wpAnyH_ready (rs := [4]) (by kernel_rfl) (by simp) ?_
      refine AllReadyH.cons rfl (fun K hK => ?_) AllReadyH.nil
      go_simp
      go_at_call 31
      refine (put_any _ D4.out y 128 (by rw [HLN.out]; exact HYB.out) hyl (Nat.le_refl _)).mono ?_
      rintro e w5 ⟨⟨u, rfl⟩, hD5, hT5⟩
      have lq := LQ.out
      refine hK.out _ _ (X4.out.turn hT5 (by omega)).at_ (fun hHeld => ?_)
      try simp only [Act.put, List.getElem_toArray, List.getElem_cons_succ, List.getElem_cons_zero, List.setIfInBounds_toArray, List.set_cons_zero, List.set_cons_succ]
      refine wpAnyH_done (by kernel_rfl) ?_ _
      have hD6 : DiskIn F w5 p q c (.slice (some ⟨g, 0, none⟩) E.waits.length d) { E with blks := flushK E (k + 1) } := by rw [HFL.out]; exact hD5
      have D6 := Lib.hid hD6
      have T6 := Lib.hid (T4.out.trans (hT5.mono fun j e => by rw [e]; exact D4.out.fq))
      clear hD5 hT5 hD6 hHeld lq hK
      go_wp2_with fail
      go_roundw
      case rel => exact ⟨k + 1, by omega, by go_num, D6.out, T6.out⟩
      case measure => simp [intOf]; omega
    · obtain rfl : k = E.waits.length := by omega
      have DE := Lib.hid DK.out
      obtain ⟨h1, f1⟩ := DK.out.head.get 1 _ rfl
      go_wp2_with fail
      go_ret
      have ht := Turn.set (F := fun j => j = p) wr (i := 1) rfl (.slice none 0 0)
      refine ⟨rfl, ⟨c, _, DE.out.empty E.left E.down DE.out.ok.lo DE.out.ok.hi ht (by simp [World.setCell]) (by exact DE.out.head.setAt 1 (by simp) (.slice none 0 0))⟩, (T1.out.trans TK.out).trans (Turn.set wr DE.out.fp (i := 1) _)⟩

theorem flush_any (w : World) (h : DiskAt F w p q D) : Calls Try.prog 20 #[.pointer (some ⟨p, 0, none⟩)] w fun e w' => e = .returned (.int .i64 (flushE D)) ∧ DiskAt F w' p q (flushed D) ∧ Turn F w w' := by
  cases hd : D.down
  · by_cases hl : D.left = 0
    · rw [show flushE D = 20 by unfold flushE powerE; rw [hd, if_neg (by decide), if_pos hl], show flushed D = powered D by unfold flushed; rw [hd, if_neg (by decide), if_pos hl]]
      exact flush_dead w h hd hl
    · rw [show flushE D = 0 by unfold flushE powerE; rw [hd, if_neg (by decide), if_neg hl], show flushed D = { powered D with blks := flushK (powered D) (powered D).waits.length, waits := [] } by
        unfold flushed
        rw [hd, if_neg (by decide), if_neg hl, (powered_keeps D).2, flushK_same (powered_keeps D).1 (powered_keeps D).2]]
      exact flush_yes w h hd hl
  · rw [show flushE D = 20 by unfold flushE; rw [hd, if_pos rfl], show flushed D = D by unfold flushed; rw [hd, if_pos rfl]]
    refine (flush_down w h hd).mono ?_
    rintro e w' ⟨rfl, rfl⟩
    exact ⟨rfl, h, Turn.refl _ _⟩
end

end Go.Proofs.Ytdnhlpddnbholaa
