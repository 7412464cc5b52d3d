/-
  disk.New; Arm.
-/
import Derived.Test.YtdnhlpddnbholaaDkE
namespace Go.Proofs.Ytdnhlpddnbholaa
open Go.RowKit
set_option linter.unusedVariables false
set_option linter.unusedSimpArgs false
attribute [local go_sem ↓] Go.wp_at_zero Go.wp_at_succ

theorem blockinfo : (Try.prog.info? 81).map (fun i => (i.zero, i.size, i.bytes)) = some (some (.agg (Array.replicate 128 (.int .u8 0))), 128, 128) := by kernel_rfl
theorem made_blocks (k : Nat) : (madeCells (Array.replicate 128 (.int .u8 0)) k).toList = b8 (List.replicate k 0) := by
  apply List.ext_getElem?
  intro j
  simp only [madeCells, b8, Array.toList_map, List.getElem?_map, Array.toList_range, List.getElem?_range, List.map_replicate, List.getElem?_replicate, Array.size_replicate]
  by_cases hj : j < k
  · rw [List.getElem?_range hj, if_pos hj, Option.map_some, getElem!_pos _ _ (by simp; omega)]
    simp
  · rw [List.getElem?_eq_none (by simpa using hj), if_neg hj]
    rfl
theorem MemC.mem8 {w : World} {b o : Nat} {l : List UInt8} (h : MemC w b o (b8 l)) : Mem8 w b o l.length l :=
  ⟨rfl, h.at_.lt, fun j hj => by rw [h.at_.cell j (by rw [b8_length]; exact hj)]; simp [b8], fun j hj => h.free j (by rw [b8_length]; exact hj)⟩
theorem flat_new (n : Nat) : flat (newD n).blks = List.replicate (128 * n) 0 := by
  unfold newD flat
  simp only
  induction n with
  | zero => rfl
  | succ n ih => rw [List.replicate_succ, List.flatten_cons, ih, List.replicate_append_replicate]; congr 1; omega

theorem new_bad (n : Int) (w : World) (h : n < 16 ∨ 4096 < n) : Calls Try.prog 16 #[.int .i64 n] w fun e w' => e = .returned (.tuple #[.pointer none, .int .i64 2]) ∧ w = w' := by
  rcases (show n < 16 ∨ (¬ n < 16 ∧ 4096 < n) by omega) with h1 | ⟨h1, h2⟩
  all_goals
    clear h
    go_enter Try.func16, Try.ntmps16
    go_wp2_with fail
    go_ret2
    exact ⟨rfl, rfl⟩

set_option maxRecDepth 100000 in
theorem new_good (n : Nat) (w : World) (h1 : 16 ≤ n) (h2 : n ≤ 4096) (F : Nat → Prop) (hF : ∀ b, w.heap.size ≤ b → F b) : Calls Try.prog 16 #[.int .i64 (n : Int)] w fun e w' => ∃ p q, e = .returned (.tuple #[.pointer (some ⟨p, 0, none⟩), .int .i64 0]) ∧ w.heap.size ≤ p ∧ w.heap.size ≤ q ∧ DiskAt F w' p q (newD n) ∧ Below w.heap.size w w' := by
  have HF := Lib.hid hF
  clear hF
  obtain ⟨i0, hi, hz0, hz1, hz2⟩ := info_parts blockinfo
  have n1 : ¬ (n : Int) < 16 := by omega
  have n2 : ¬ (4096 : Int) < (n : Int) := by omega
  go_enter Try.func16, Try.ntmps16
  go_wp2_with (at_make; refine wpList_make_full _ rfl _ _ 70 rfl w.heap.size 81 i0 (.agg (Array.replicate 128 (.int .u8 0))) 128 Try.underlying70 hi hz0 hz1 .i64 .i64 _ _ n rfl rfl rfl rfl (by rw [hz2]; omega) (by simp only [maxLen]; omega) (Nat.le_refl _) ?_)
  intro w1 hown hgrow
  have hb1 : Below w.heap.size w w1 := (Below.refl _ _).grown hgrow (Nat.le_refl _) (by intro k hk; cases hk)
  rw [made_blocks] at hown
  have hm := (MemC.of_ownC hown).1
  have hlt : w.heap.size < w1.heap.size := hm.at_.lt
  have HM := Lib.hid hm
  have HB := Lib.hid hb1
  clear hown hgrow hm hb1 hi hz0 hz1 hz2
  go_wp2_with fail
  go_ret2
  have b2 : Below w1.heap.size w1 (w1.alloc (.cells #[.slice (some ⟨w.heap.size, 0, none⟩) n n, .slice none 0 0, .int .i64 (-1), .bool false] 77)) := (Below.refl _ w1).alloc (Nat.le_refl _) _
  have m2 := MemC.new w1 [.slice (some ⟨w.heap.size, 0, none⟩) n n, .slice none 0 0, .int .i64 (-1), .bool false] 77
  have hbl : (newD n).blks.length = n := by simp [newD]
  refine ⟨_, w.heap.size, rfl, by omega, Nat.le_refl _, ⟨n, .slice none 0 0, newD_ok n h1 h2, ?_, by rw [hbl]; exact Nat.le_refl _, by simp only [maxLen]; omega, ?_, ⟨by simp [newD, wcells], .inl ⟨rfl, by simp [newD]⟩⟩, HF.out _ (by omega), HF.out _ (Nat.le_refl _), fun g hg => by simp [Value.ownBlock] at hg, fun b hb => HF.out b (Nat.le_trans (HB.out.trans (b2.mono HB.out.size)).size hb), by omega, by simp [Value.ownBlock], by simp [Value.ownBlock]⟩, HB.out.trans (b2.mono HB.out.size)⟩
  · rw [hbl]
    exact m2
  · rw [hbl, flat_new]
    have := (HM.out.keep b2).mem8
    rw [List.length_replicate, Nat.mul_comm] at this
    exact this

section
variable {F : Nat → Prop} {p q : Nat} {D : Dk}
/-- One of the head's last two cells turns. -/
theorem DiskIn.turns {w w' : World} {c : Nat} {v : Value} (h : DiskIn F w p q c v D) (ht : Turn (fun k => k = p) w w') (hs : w'.heap.size = w.heap.size) (l : Int) (dn : Bool) (hl : -1 ≤ l) (hh : l ≤ 9223372036854775807)
    (hm : MemC w' p 0 [.slice (some ⟨q, 0, none⟩) D.blks.length c, v, .int .i64 l, .bool dn]) : DiskIn F w' p q c v { D with left := l, down := dn } := by
  refine h.headset (D' := { D with left := l, down := dn }) (fun k hk => ?_) hs rfl rfl ⟨h.ok.blk, h.ok.wait, h.ok.pos, h.ok.many, h.ok.few, hl, hh⟩ hm
  by_cases hlt : k < w.heap.size
  · exact ht.block k hlt hk
  · rw [Array.getElem?_eq_none (by omega), Array.getElem?_eq_none (by omega)]

theorem arm_any (w : World) (h : DiskAt F w p q D) (n : Int) (hn : -9223372036854775808 ≤ n) (hn2 : n ≤ 9223372036854775807) : Calls Try.prog 17 #[.pointer (some ⟨p, 0, none⟩), .int .i64 n] w fun e w' => e = .returned (.int .i64 (armE D n)) ∧ DiskAt F w' p q (armed D n) ∧ Turn F w w' := by
  have HA := Lib.hid h
  obtain ⟨c, v, h⟩ := h
  obtain ⟨h2, f2⟩ := h.head.get 2 _ rfl
  have HD := Lib.hid h
  clear h
  have HM := Lib.hid (may_any w HA.out)
  unfold mayE at HM
  cases hd : D.down
  · rw [hd, if_neg (by decide)] at HM
    by_cases hneg : n < 0
    · rw [show armE D n = 2 by simp [armE, hd, hneg], show armed D n = D by simp [armed, hd, hneg]]
      clear hd
      go_enter Try.func17, Try.ntmps17
      go_wp2_with fail
      refine HM.out.mono ?_
      rintro e w' ⟨rfl, rfl⟩
      go_wp2_with fail
      go_ret
      exact ⟨rfl, HA.out, Turn.refl _ _⟩
    · rw [show armE D n = 0 by simp [armE, hd, hneg], show armed D n = { D with left := n } by simp [armed, hd, hneg]]
      clear hd
      go_enter Try.func17, Try.ntmps17
      go_wp2_with fail
      refine HM.out.mono ?_
      rintro e w' ⟨rfl, rfl⟩
      go_wp2_with fail
      go_ret
      refine ⟨rfl, ⟨c, v, ?_⟩, Turn.set w HD.out.fp _⟩
      have := HD.out.turns (Turn.set (F := fun k => k = p) w rfl (.int .i64 n)) (by simp [World.setCell]) n D.down (by omega) hn2 (by exact HD.out.head.setAt 2 (by simp) (.int .i64 n))
      exact this
  · rw [hd, if_pos rfl] at HM
    rw [show armE D n = 20 by simp [armE, hd], show armed D n = D by simp [armed, hd]]
    clear hd
    go_enter Try.func17, Try.ntmps17
    go_wp2_with fail
    refine HM.out.mono ?_
    rintro e w' ⟨rfl, rfl⟩
    go_wp2_with fail
    go_ret
    exact ⟨rfl, HA.out, Turn.refl _ _⟩
end

end Go.Proofs.Ytdnhlpddnbholaa
