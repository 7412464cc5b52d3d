/-
  Disk.Read.
-/
import Derived.Test.YtdnhlpddnbholaaDkF
namespace Go.Proofs.Ytdnhlpddnbholaa
open Go.RowKit
set_option linter.unusedVariables false
set_option linter.unusedSimpArgs false
attribute [local go_sem ↓] Go.wp_at_zero Go.wp_at_succ

theorem u8info : (Try.prog.info? 5).map (fun i => (i.zero, i.size, i.bytes)) = some (some (.int .u8 0), 1, 1) := by kernel_rfl
theorem made_bytes (n : Nat) : (madeCells #[Value.int .u8 0] n).toList = b8 (List.replicate n 0) := by
  rw [toList_madeCells_one]
  simp [b8]

/-- What a reader gives: bytes in new memory, with an error. -/
def ReadR (w w' : World) (l : List UInt8) (k : Int) (e : Ending) : Prop :=
  ∃ A m c, e = .returned (.tuple #[.slice A m c, .int .i64 k]) ∧ Reads8 w' A m l ∧ m ≤ c ∧ c ≤ maxLen ∧ (∀ a, A = some a → w.heap.size ≤ a.block) ∧ Below w.heap.size w w'

section
variable {F : Nat → Prop} {p q : Nat} {D : Dk}
theorem read_no (w : World) (h : DiskAt F w p q D) (a : Int) (hd : D.down = true ∨ a < 0 ∨ (D.blks.length : Int) ≤ a) : Calls Try.prog 14 #[.pointer (some ⟨p, 0, none⟩), .int .i64 a] w fun e w' => e = .returned (.tuple #[.slice none 0 0, .int .i64 (readE D a)]) ∧ w = w' := by
  have HM := Lib.hid (may_any w h)
  obtain ⟨c, v, h⟩ := h
  obtain ⟨h0, f0⟩ := h.head.get 0 _ rfl
  clear h
  unfold mayE at HM
  cases hdn : D.down
  · rw [hdn, if_neg (by decide)] at HM
    have ha : a < 0 ∨ (¬ a < 0 ∧ (D.blks.length : Int) ≤ a) := by
      rcases hd with h | h | h
      · rw [hdn] at h; cases h
      · exact .inl h
      · by_cases h2 : a < 0
        · exact .inl h2
        · exact .inr ⟨h2, h⟩
    rw [show readE D a = 2 by
      unfold readE
      rw [hdn, if_neg (by decide), if_pos]
      rcases ha with h | ⟨_, h⟩
      · exact .inl h
      · exact .inr h]
    clear hdn hd
    rcases ha with ha | ⟨ha, ha2⟩
    all_goals
      go_enter Try.func14, Try.ntmps14
      go_wp2_with fail
      refine HM.out.mono ?_
      rintro e w' ⟨rfl, rfl⟩
      go_wp2_with fail
      go_ret2
      exact ⟨rfl, rfl⟩
  · rw [hdn, if_pos rfl] at HM
    rw [show readE D a = 20 by simp [readE, hdn]]
    clear hdn hd
    go_enter Try.func14, Try.ntmps14
    go_wp2_with fail
    refine HM.out.mono ?_
    rintro e w' ⟨rfl, rfl⟩
    go_wp2_with fail
    go_ret2
    exact ⟨rfl, rfl⟩

set_option maxRecDepth 100000 in
set_option maxHeartbeats 2000000 in
theorem read_yes (w : World) (h : DiskAt F w p q D) (k : Nat) (hd : D.down = false) (hk : k < D.blks.length) : Calls Try.prog 14 #[.pointer (some ⟨p, 0, none⟩), .int .i64 (k : Int)] w fun e w' => ∃ g, e = .returned (.tuple #[.slice (some ⟨g, 0, none⟩) 128 128, .int .i64 0]) ∧ w.heap.size ≤ g ∧ Mem8 w' g 0 128 (readB D k) ∧ Below w.heap.size w w' := by
  have HM := Lib.hid (may_any w h)
  obtain ⟨c, v, h⟩ := h
  obtain ⟨h0, f0⟩ := h.head.get 0 _ rfl
  unfold mayE at HM
  rw [hd, if_neg (by decide)] at HM
  have HD := Lib.hid h
  have k0 : ¬ (k : Int) < 0 := by omega
  have k1 : (k : Int) < (D.blks.length : Int) := by omega
  have hcap := h.cap
  clear h
  obtain ⟨i0, hi, hz0, hz1, hz2⟩ := info_parts u8info
  go_enter Try.func14, Try.ntmps14
  go_wp2_with fail
  refine HM.out.mono ?_
  rintro e w' ⟨rfl, rfl⟩
  go_wp2_with (at_make; refine wpList_make_full _ rfl _ _ 37 rfl w.heap.size 5 i0 (.int .u8 0) 1 Try.underlying37 hi hz0 hz1 .i64 .i64 _ _ 128 rfl rfl rfl rfl (by rw [hz2]; omega) (by simp only [maxLen]; omega) (Nat.le_refl _) ?_)
  intro w1 hown hgrow
  have hb1 : Below w.heap.size w w1 := (Below.refl _ _).grown hgrow (Nat.le_refl _) (by intro k hk; cases hk)
  rw [made_bytes] at hown
  have hm := (MemC.of_ownC hown).1.mem8
  rw [List.length_replicate] at hm
  have D1 := Lib.hid (HD.out.keep hb1)
  have M1 := Lib.hid hm
  have B1 := Lib.hid hb1
  clear hown hgrow hm hb1 hi hz0 hz1 hz2 h0 f0 HM HD
  go_wp2_with fail
  refine (last_any _ D1.out (k : Int)).mono ?_
  rintro e w2 ⟨rfl, hb⟩
  have D2 := Lib.hid (D1.out.keep hb)
  have M2 := Lib.hid (M1.out.keep hb)
  have B2 := Lib.hid (B1.out.trans (hb.mono B1.out.size))
  clear hb D1 M1 B1
  have hq : ∀ W, Wrote w2 W w.heap.size 0 128 → Below w.heap.size w2 W := fun W hw => hw.below (Nat.le_refl _)
  have HQ := Lib.hid hq
  clear hq
  obtain ⟨h0, f0⟩ := D2.out.head.get 0 _ rfl
  obtain ⟨h1, f1⟩ := D2.out.head.get 1 _ rfl
  have hrl := readB_length D2.out.ok k hk
  have HRL := Lib.hid hrl
  clear hrl
  cases hl : lastK D.waits (k : Int) D.waits.length with
  | none =>
    have hrb : readB D k = D.blks.getD k [] := by unfold readB; rw [hl]
    have hc : CellsAt w2 q (k * 128) (b8 (readB D k)) := by
      have := D2.out.blks.cellsAt.sub (k * 128) 128
      rw [Nat.zero_add] at this
      have e : ((b8 (flat D.blks)).drop (k * 128)).take 128 = b8 (readB D k) := by
        rw [hrb, ← flat_at D.blks D2.out.ok.blk k hk, Nat.mul_comm]
        simp [b8, List.map_take, List.map_drop]
      rwa [e] at this
    have HC := Lib.hid hc
    clear hrb hc hl h1 f1
    rw [show lastZ none = -1 from rfl]
    go_wp2_with ((with_reducible refine wl_copy8 (.tmp 45) (.tmp 53) ?_ ?_ w.heap.size 0 128 128 q (k * 128) 128 128 _ (readB D k) ?_ ?_ ?_ M2.out HC.out ?_); rfl; rfl; rfl; rfl; (rw [HRL.out]; rfl))
    intro w3 hw3 hm3
    rw [HRL.out] at hw3 hm3
    rw [HRL.out]
    have B3 := Lib.hid (B2.out.trans (HQ.out _ (by simpa using hw3)))
    have M3 := Lib.hid hm3
    clear hw3 hm3
    go_wp2_with fail
    go_ret2
    exact ⟨_, rfl, Nat.le_refl _, M3.out, B3.out⟩
  | some i =>
    obtain ⟨hi, _, _⟩ := lastK_some hl
    have hrb : readB D k = (D.waits.getD i nW).2 := by unfold readB; rw [hl]
    obtain ⟨A, d, rfl, _, hnd, hdm, hcells⟩ := D2.out.slice
    obtain ⟨g, rfl, hmg⟩ := hcells (by omega)
    have hc : CellsAt w2 g (i * 129 + 1) (b8 (readB D k)) := by
      have h2 := (write_at (fun x hx => (D2.out.ok.wait x hx).2) hmg.at_ i hi).bytes 128
      rw [← hrb, List.take_of_length_le (by rw [HRL.out]; exact Nat.le_refl _)] at h2
      exact h2
    have HC := Lib.hid hc
    have i0 : (0 : Int) ≤ (i : Int) := by omega
    have i1 : (i : Int) < (D.waits.length : Int) := by omega
    clear hrb hc hl h0 f0 hcells hmg
    rw [show lastZ (some i) = (i : Int) from rfl]
    go_wp2_with ((with_reducible refine wl_copy8 (.tmp 34) (.tmp 43) ?_ ?_ w.heap.size 0 128 128 g (i * 129 + 1) 128 128 _ (readB D k) ?_ ?_ ?_ M2.out HC.out ?_); rfl; rfl; rfl; rfl; (rw [HRL.out]; rfl))
    intro w3 hw3 hm3
    rw [HRL.out] at hw3 hm3
    rw [HRL.out]
    have B3 := Lib.hid (B2.out.trans (HQ.out _ (by simpa using hw3)))
    have M3 := Lib.hid hm3
    clear hw3 hm3
    go_wp2_with fail
    go_ret2
    exact ⟨_, rfl, Nat.le_refl _, M3.out, B3.out⟩

theorem read_any (w : World) (h : DiskAt F w p q D) (a : Int) : Calls Try.prog 14 #[.pointer (some ⟨p, 0, none⟩), .int .i64 a] w fun e w' => ReadR w w' (readL D a) (readE D a) e := by
  by_cases hd : D.down = true ∨ a < 0 ∨ (D.blks.length : Int) ≤ a
  · refine (read_no w h a hd).mono ?_
    rintro e w' ⟨rfl, rfl⟩
    have hl : readL D a = [] := by
      unfold readL
      split
      · rfl
      · rw [if_pos]
        rcases hd with h | h | h
        · contradiction
        · exact .inl h
        · exact .inr h
    rw [hl]
    exact ⟨none, 0, 0, rfl, Reads8.nil _ _, Nat.le_refl _, by simp [maxLen], fun a e => (by cases e), Below.refl _ _⟩
  · have h1 : D.down = false := by
      cases e : D.down
      · rfl
      · exact absurd (.inl e) hd
    have h2 : 0 ≤ a ∧ a < (D.blks.length : Int) := by
      constructor
      · rcases Int.lt_or_le a 0 with h | h
        · exact absurd (.inr (.inl h)) hd
        · exact h
      · rcases Int.lt_or_le a (D.blks.length : Int) with h | h
        · exact h
        · exact absurd (.inr (.inr h)) hd
    obtain ⟨k, rfl⟩ : ∃ k : Nat, a = (k : Int) := ⟨a.toNat, by omega⟩
    have hne : ¬ ((k : Int) < 0 ∨ (D.blks.length : Int) ≤ (k : Int)) := by omega
    rw [show readL D (k : Int) = readB D k by unfold readL; rw [h1, if_neg (by decide), if_neg hne]; rfl, show readE D (k : Int) = 0 by unfold readE; rw [h1, if_neg (by decide), if_neg hne]]
    refine (read_yes w h k h1 (by omega)).mono ?_
    rintro e w' ⟨g, rfl, hg, hm, hb⟩
    exact ⟨_, _, _, rfl, hm.reads, Nat.le_refl _, by simp [maxLen], fun a e => by injection e with e; rw [← e]; exact hg, hb⟩
end

end Go.Proofs.Ytdnhlpddnbholaa
