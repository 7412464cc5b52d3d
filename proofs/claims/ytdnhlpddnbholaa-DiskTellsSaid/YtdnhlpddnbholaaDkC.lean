/-
  plate.put.
-/
import Derived.Test.YtdnhlpddnbholaaDkB
namespace Go.Proofs.Ytdnhlpddnbholaa
open Go.RowKit
set_option linter.unusedVariables false
set_option linter.unusedSimpArgs false
attribute [local go_sem ↓] Go.wp_at_zero Go.wp_at_succ

theorem CellsAt.bytes {w : World} {b o : Nat} {x : Nat × List UInt8} (h : CellsAt w b o (wcell x)) (k : Nat) : CellsAt w b (o + 1) (b8 (x.2.take k)) := by
  have := h.sub 1 k
  have e : ((wcell x).drop 1).take k = b8 (x.2.take k) := by simp [wcell, b8, List.map_take]
  rwa [e] at this
theorem mid_drop (l : List UInt8) (a m : Nat) : (l.drop a).take m ++ l.drop (a + m) = l.drop a := by rw [← List.drop_drop, List.take_append_drop]
theorem DiskIn.put {F : Nat → Prop} {w w' : World} {p q c : Nat} {v : Value} {D : Dk} (h : DiskIn F w p q c v D) (ht : Turn (fun k => k = q) w w') (x : Nat × List UInt8) (k : Nat) (hx : x.1 < D.blks.length) (hl : x.2.length = 128) (hk : k ≤ 128)
    (hm : Mem8 w' q 0 (128 * D.blks.length) (flat (putB D.blks x k))) : DiskIn F w' p q c v { D with blks := putB D.blks x k } := by
  have hz := putB_length D.blks x k
  have ok : Dk.Ok { D with blks := putB D.blks x k } := ⟨fun i hi => putB_ok h.ok.blk hx hl hk i (by simpa [hz] using hi), fun y hy => by have := h.ok.wait y hy; simpa [hz] using this, by simpa [hz] using h.ok.pos, by simpa [hz] using h.ok.many, h.ok.few, h.ok.lo, h.ok.hi⟩
  refine ⟨ok, ?_, ?_, h.capm, ?_, own_turn h.waits ht fun g hg e => h.vq (by rw [hg, e]), h.fp, h.fq, h.fv, fun b hb => h.new b (Nat.le_trans ht.size hb), h.pq, h.vp, h.vq⟩
  · show MemC w' p 0 [.slice (some ⟨q, 0, none⟩) (putB D.blks x k).length c, v, .int .i64 D.left, .bool D.down]
    rw [hz]
    exact h.head.turn ht h.pq
  · show (putB D.blks x k).length ≤ c
    rw [hz]
    exact h.cap
  · show Mem8 w' q 0 (128 * (putB D.blks x k).length) _
    rw [hz]
    exact hm

set_option maxHeartbeats 2000000 in
set_option maxRecDepth 100000 in
theorem put_any {F : Nat → Prop} (w : World) {p q c : Nat} {v : Value} {D : Dk} (h : DiskIn F w p q c v D) (x : Nat × List UInt8) (k : Nat) (hx : x.1 < D.blks.length) (hl : x.2.length = 128) (hk : k ≤ 128) :
    Calls Try.prog 31 #[.pointer (some ⟨p, 0, none⟩), wval x, .int .i64 (k : Int)] w fun e w' => (∃ u, e = .returned u) ∧ DiskIn F w' p q c v { D with blks := putB D.blks x k } ∧ Turn (fun j => j = q) w w' := by
  have HD := Lib.hid h
  have hmany := h.ok.many
  have hlt := h.lt
  obtain ⟨h0, _⟩ := h.head.get 0 _ rfl
  have hcap := h.cap
  clear h
  go_enter Try.func31, Try.ntmps31
  go_upto_region 0 with fail
  refine wp_region_lit ?_
  refine wl_box (.tmp 1) rfl (by rfl) x rfl fun W1 hb1 hm1 hs1 => ?_
  have D1 := Lib.hid (HD.out.keep hb1)
  have X1 := Lib.hid hm1
  have HB := Lib.hid hb1
  clear hb1 hm1 HD h0
  go_upto_region 1 with fail
  obtain ⟨W2, hW2⟩ : ∃ W : World, W = W1.drew := ⟨_, rfl⟩
  have bd : Below W1.heap.size W1 W1.drew := (Below.refl W1.heap.size W1).drew
  have D2 := Lib.hid (show DiskIn F W2 p q c v D by rw [hW2]; exact D1.out.keep bd)
  have X2 := Lib.hid (show MemC W2 w.heap.size 0 (wcell x) by rw [hW2]; exact X1.out.keep bd)
  have HB2 := Lib.hid (show Below w.heap.size w W2 by rw [hW2]; exact HB.out.trans (bd.mono HB.out.size))
  have h0 := (D2.out.head.get 0 _ rfl).1
  have x0 := (X2.out.get 0 _ (show (wcell x)[0]? = some (.int .i64 (x.1 : Int)) from rfl)).1
  have hS : W2.cell? ⟨p, 0, none⟩ = some (.slice (some ⟨q, 0, none⟩) D.blks.length c) ∧ W2.cell? ⟨w.heap.size, 0, none⟩ = some (.int .i64 (x.1 : Int)) := ⟨h0, x0⟩
  have HX := Lib.hid hx
  have hk1 : (k : Int) ≤ 128 := by omega
  have hx1 : (x.1 : Int) < (D.blks.length : Int) := by omega
  refine wp_region_held_drew (S := fun w' => w'.cell? ⟨p, 0, none⟩ = some (.slice (some ⟨q, 0, none⟩) D.blks.length c) ∧ w'.cell? ⟨w.heap.size, 0, none⟩ = some (.int .i64 (x.1 : Int))) (by kernel_rfl) (by rw [← hW2]; exact hS) (fun hHeld => ?_)
  rw [← hW2] at hHeld ⊢
  have HS := Lib.hid hS
  clear hW2 D1 X1 HB h0 x0 bd hS hs1 W1
  refine wpAnyH_take (i := 0) (v := .pointer (some ⟨p, 0, none⟩)) rfl (by kernel_rfl) (by kernel_rfl) (by kernel_rfl) (fun _ _ _ h => h) (Or.inl ⟨by kernel_rfl, fun w _ => by go_simp⟩) hHeld ?_
  try simp only [Act.put, List.getElem_toArray, List.getElem_cons_succ, List.getElem_cons_zero, List.setIfInBounds_toArray, List.set_cons_zero, List.set_cons_succ]
  refine wpAnyH_take (i := 1) (v := .pointer (some ⟨p, 0, none⟩)) rfl (by kernel_rfl) (by kernel_rfl) (by kernel_rfl) (fun _ _ _ h => h) (Or.inl ⟨by kernel_rfl, fun w _ => by go_simp⟩) hHeld ?_
  try simp only [Act.put, List.getElem_toArray, List.getElem_cons_succ, List.getElem_cons_zero, List.setIfInBounds_toArray, List.set_cons_zero, List.set_cons_succ]
  refine wpAnyH_take (i := 2) (v := .pointer (some ⟨p, 0, none⟩)) rfl (by kernel_rfl) (by kernel_rfl) (by kernel_rfl) (fun _ _ _ h => h) (Or.inl ⟨by kernel_rfl, fun w _ => by go_simp⟩) hHeld ?_
  try simp only [Act.put, List.getElem_toArray, List.getElem_cons_succ, List.getElem_cons_zero, List.setIfInBounds_toArray, List.set_cons_zero, List.set_cons_succ]
  refine wpAnyH_take (i := 3) (v := .slice (some ⟨q, 0, none⟩) D.blks.length c) rfl (by kernel_rfl) (by kernel_rfl) (by kernel_rfl) (fun _ _ _ h => h) (Or.inl ⟨by kernel_rfl, fun w h => by have hc := h.1; go_simp⟩) hHeld ?_
  try simp only [Act.put, List.getElem_toArray, List.getElem_cons_succ, List.getElem_cons_zero, List.setIfInBounds_toArray, List.set_cons_zero, List.set_cons_succ]
  refine wpAnyH_take (i := 4) (v := .pointer (some ⟨w.heap.size, 0, none⟩)) rfl (by kernel_rfl) (by kernel_rfl) (by kernel_rfl) (fun _ _ _ h => h) (Or.inl ⟨by kernel_rfl, fun w _ => by go_simp⟩) hHeld ?_
  try simp only [Act.put, List.getElem_toArray, List.getElem_cons_succ, List.getElem_cons_zero, List.setIfInBounds_toArray, List.set_cons_zero, List.set_cons_succ]
  refine wpAnyH_take (i := 5) (v := .int .i64 (x.1 : Int)) rfl (by kernel_rfl) (by kernel_rfl) (by kernel_rfl) (fun _ _ _ h => h) (Or.inl ⟨by kernel_rfl, fun w h => by have hc := h.2; go_simp⟩) hHeld ?_
  try simp only [Act.put, List.getElem_toArray, List.getElem_cons_succ, List.getElem_cons_zero, List.setIfInBounds_toArray, List.set_cons_zero, List.set_cons_succ]
  refine wpAnyH_take (i := 6) (v := .pointer (some ⟨q, x.1 * 128, none⟩)) rfl (by kernel_rfl) (by kernel_rfl) (by kernel_rfl) (fun _ _ _ h => h) (Or.inl ⟨by kernel_rfl, fun w _ => by go_simp⟩) hHeld ?_
  try simp only [Act.put, List.getElem_toArray, List.getElem_cons_succ, List.getElem_cons_zero, List.setIfInBounds_toArray, List.set_cons_zero, List.set_cons_succ]
  refine wpAnyH_take (i := 7) (v := .int .i64 (k : Int)) rfl (by kernel_rfl) (by kernel_rfl) (by kernel_rfl) (fun _ _ _ h => h) (Or.inl ⟨by kernel_rfl, fun w _ => by go_simp⟩) hHeld ?_
  try simp only [Act.put, List.getElem_toArray, List.getElem_cons_succ, List.getElem_cons_zero, List.setIfInBounds_toArray, List.set_cons_zero, List.set_cons_succ]
  refine wpAnyH_take (i := 8) (v := .slice (some ⟨q, x.1 * 128, none⟩) k 128) rfl (by kernel_rfl) (by kernel_rfl) (by kernel_rfl) (fun _ _ _ h => h) (Or.inl ⟨by kernel_rfl, fun w _ => by go_simp⟩) hHeld ?_
  try simp only [Act.put, List.getElem_toArray, List.getElem_cons_succ, List.getElem_cons_zero, List.setIfInBounds_toArray, List.set_cons_zero, List.set_cons_succ]
  refine wpAnyH_take (i := 9) (v := .pointer (some ⟨w.heap.size, 1, none⟩)) rfl (by kernel_rfl) (by kernel_rfl) (by kernel_rfl) (fun _ _ _ h => h) (Or.inl ⟨by kernel_rfl, fun w _ => by go_simp⟩) hHeld ?_
  try simp only [Act.put, List.getElem_toArray, List.getElem_cons_succ, List.getElem_cons_zero, List.setIfInBounds_toArray, List.set_cons_zero, List.set_cons_succ]
  refine wpAnyH_take (i := 10) (v := .slice (some ⟨w.heap.size, 1, none⟩) 128 128) rfl (by kernel_rfl) (by kernel_rfl) (by kernel_rfl) (fun _ _ _ h => h) (Or.inl ⟨by kernel_rfl, fun w _ => by go_simp⟩) hHeld ?_
  try simp only [Act.put, List.getElem_toArray, List.getElem_cons_succ, List.getElem_cons_zero, List.setIfInBounds_toArray, List.set_cons_zero, List.set_cons_succ]
  refine wpAnyH_ready (rs := [11]) (by kernel_rfl) (by simp) ?_
  refine AllReadyH.cons rfl (fun K hK => ?_) AllReadyH.nil
  rw [if_pos (show Region.wanted _ _ = true by kernel_rfl)]
  have hlen := flat_length D.blks D2.out.ok.blk
  have hold := D2.out.ok.blk x.1 HX.out
  have hM : Mem8 W2 q (x.1 * 128) k (((flat D.blks).drop (x.1 * 128)).take k) := by have := D2.out.blks.sub (x.1 * 128) k (by have := HX.out; omega); rwa [Nat.zero_add] at this
  have hC : CellsAt W2 w.heap.size 1 (b8 (x.2.take k)) := by have := X2.out.at_.bytes k; rwa [Nat.zero_add] at this
  refine wp_copy8 (.tmp 14) (.tmp 16) rfl q (x.1 * 128) k 128 w.heap.size 1 128 128 _ (x.2.take k) rfl rfl (by rw [List.length_take, hl]; exact Nat.min_comm _ _) hM hC fun W3 hw hm3 => ?_
  have hkl : (x.2.take k).length = k := by rw [List.length_take, hl]; omega
  rw [hkl] at hw hm3
  have hq3 : Turn (fun j => j = q) W2 W3 := hw.turn
  have hqp : p ≠ q := D2.out.pq
  have hqw : w.heap.size ≠ q := by omega
  refine hK.out _ _ ⟨(World.cell?_of_block (a := ⟨p, 0, none⟩) (hw.other p hqp)).trans HS.out.1, (World.cell?_of_block (a := ⟨w.heap.size, 0, none⟩) (hw.other _ hqw)).trans HS.out.2⟩ (fun hHeld => ?_)
  try simp only [Act.put, List.getElem_toArray, List.getElem_cons_succ, List.getElem_cons_zero, List.setIfInBounds_toArray, List.set_cons_zero, List.set_cons_succ]
  refine wpAnyH_done (by kernel_rfl) ?_ _
  have hsp := Wrote.splice (o := 0) (at_ := x.1 * 128) (size := k) (by simpa using hw) D2.out.blks (by simpa using hm3) (by have := HX.out; omega)
  have hset := flat_set D.blks D2.out.ok.blk x.1 HX.out (x.2.take k ++ (D.blks.getD x.1 []).drop k) (by rw [List.length_append, List.length_take, List.length_drop, hl, hold]; omega)
  have he : flat (putB D.blks x k) = (flat D.blks).take (x.1 * 128) ++ x.2.take k ++ (flat D.blks).drop (x.1 * 128 + k) := by
    unfold putB
    rw [hset, ← flat_at D.blks D2.out.ok.blk x.1 HX.out, List.drop_take, List.drop_drop, Nat.mul_comm 128 x.1]
    have e : ((flat D.blks).drop (x.1 * 128 + k)).take (128 - k) ++ (flat D.blks).drop (x.1 * 128 + 128) = (flat D.blks).drop (x.1 * 128 + k) := by
      have := mid_drop (flat D.blks) (x.1 * 128 + k) (128 - k)
      rwa [show x.1 * 128 + k + (128 - k) = x.1 * 128 + 128 by omega] at this
    rw [List.append_assoc, List.append_assoc, e, ← List.append_assoc]
  rw [← he] at hsp
  have HFIN := Lib.hid (D2.out.put hq3 x k HX.out hl hk hsp)
  have HT : Hid (Turn (fun j => j = q) w W3) := Lib.hid ((Turn.of_below HB2.out).trans hq3)
  clear hsp hset he hM hC hm3 hw hHeld hold hlen
  go_wp2_with fail
  go_end0
  exact ⟨⟨_, rfl⟩, HFIN.out, HT.out⟩

end Go.Proofs.Ytdnhlpddnbholaa
