/-
  Writes of one byte each, on a disk of 16 blocks: catchmentlaw02.after.
-/
import Derived.Test.YtdnhlpddnbholaaDkOpen
namespace Go.Proofs.Ytdnhlpddnbholaa
open Go.RowKit
set_option linter.unusedVariables false
set_option linter.unusedSimpArgs false
attribute [local go_sem ↓] Go.wp_at_zero Go.wp_at_succ

/-- The blocks that a disk may turn now. -/
def Tight (w : World) (p q : Nat) (v : Value) (b : Nat) : Prop := b = p ∨ b = q ∨ v.ownBlock = some b ∨ w.heap.size ≤ b
theorem DiskIn.tight {F : Nat → Prop} {w : World} {p q c : Nat} {v : Value} {D : Dk} (h : DiskIn F w p q c v D) : DiskAt (Tight w p q v) w p q D :=
  ⟨c, v, h.ok, h.head, h.cap, h.capm, h.blks, h.waits, .inl rfl, .inr (.inl rfl), fun g hg => .inr (.inr (.inl hg)), fun b hb => .inr (.inr (.inr hb)), h.pq, h.vp, h.vq⟩
theorem DiskIn.tight_le {F : Nat → Prop} {w : World} {p q c : Nat} {v : Value} {D : Dk} (h : DiskIn F w p q c v D) : ∀ b, Tight w p q v b → F b := fun b hb => by
  rcases hb with rfl | rfl | hb | hb
  · exact h.fp
  · exact h.fq
  · exact h.fv b hb
  · exact h.new b hb
theorem DiskAt.mono {F G : Nat → Prop} {w : World} {p q : Nat} {D : Dk} (h : DiskAt G w p q D) (hG : ∀ b, G b → F b) : DiskAt F w p q D := by
  obtain ⟨c, v, h⟩ := h
  exact ⟨c, v, h.ok, h.head, h.cap, h.capm, h.blks, h.waits, hG _ h.fp, hG _ h.fq, fun g hg => hG _ (h.fv g hg), fun b hb => hG _ (h.new b hb), h.pq, h.vp, h.vq⟩

/-- The disk behind the first k writes, flushed behind f of them. -/
def afterK (l : List (UInt8 × UInt8)) (f : Int) : Nat → Dk
  | 0 => newD 16
  | k + 1 => if ((k : Int) + 1) = f then flushed (written (afterK l f k) ((l.getD k (0, 0)).1.toNat % 16 : Nat) (List.replicate 128 (l.getD k (0, 0)).2)) else written (afterK l f k) ((l.getD k (0, 0)).1.toNat % 16 : Nat) (List.replicate 128 (l.getD k (0, 0)).2)
/-- A disk of 16 blocks that has power for ever. -/
structure Live (D : Dk) (k : Nat) : Prop where
  ok : D.Ok
  n : D.blks.length = 16
  left : D.left = -1
  up : D.down = false
  few : D.waits.length ≤ k
theorem live_new : Live (newD 16) 0 := ⟨newD_ok 16 (by decide) (by decide), by simp [newD], rfl, rfl, Nat.le_refl _⟩
theorem powered_live {D : Dk} (h : D.left = -1) : powered D = D := by unfold powered; rw [if_pos (by omega)]
theorem written_live {D : Dk} {k : Nat} (h : Live D k) (a : Nat) (ha : a < 16) (b : List UInt8) (hb : b.length = 128) : written D (a : Int) b = { D with waits := D.waits ++ [(a, b)] } := by
  unfold written
  rw [if_neg (by rw [h.up]; decide), if_neg (by rw [h.n]; omega), if_neg (by rw [h.left]; decide), powered_live h.left]
  rfl
theorem flushed_live {D : Dk} {k : Nat} (h : Live D k) : flushed D = { D with blks := flushK D D.waits.length, waits := [] } := by
  unfold flushed
  rw [if_neg (by rw [h.up]; decide), if_neg (by rw [h.left]; decide), powered_live h.left]
theorem Live.write {D : Dk} {k : Nat} (h : Live D k) (hk : k < 1000) (a : Nat) (ha : a < 16) (b : List UInt8) (hb : b.length = 128) : Live (written D (a : Int) b) (k + 1) := by
  have hok := written_ok h.ok (a : Int) b (by have := h.few; omega)
  rw [written_live h a ha b hb] at hok ⊢
  exact ⟨hok, h.n, h.left, h.up, by simp; exact h.few⟩
theorem Live.flush {D : Dk} {k : Nat} (h : Live D k) : Live (flushed D) k := by
  have hok := flushed_ok h.ok
  rw [flushed_live h] at hok ⊢
  exact ⟨hok, (flushK_length D _).trans h.n, h.left, h.up, Nat.zero_le _⟩
theorem live_writeE {D : Dk} {k : Nat} (h : Live D k) (a : Nat) (ha : a < 16) : writeE D (a : Int) 128 = 0 := by
  unfold writeE powerE
  rw [h.up, if_neg (by decide), if_neg (by rw [h.n]; omega), if_neg (by rw [h.left]; decide)]
theorem live_flushE {D : Dk} {k : Nat} (h : Live D k) : flushE D = 0 := by
  unfold flushE powerE
  rw [h.up, if_neg (by decide), if_neg (by rw [h.left]; decide)]
theorem afterK_live (l : List (UInt8 × UInt8)) (f : Int) : ∀ k, k ≤ 1000 → Live (afterK l f k) k
  | 0, _ => live_new
  | k + 1, h => by
    have ih := afterK_live l f k (by omega)
    have hw := ih.write (by omega) ((l.getD k (0, 0)).1.toNat % 16) (Nat.mod_lt _ (by decide)) (List.replicate 128 (l.getD k (0, 0)).2) (by simp)
    unfold afterK
    split
    · exact hw.flush
    · exact hw

set_option maxRecDepth 100000 in
set_option maxHeartbeats 4000000 in
theorem after_any (A : Option Addr) (n c : Nat) (l : List (UInt8 × UInt8)) (f : Int) (w : World) (hl : l.length = n) (hc : Cells w A (putcells l)) (hn : n ≤ 30) :
    Calls Try.prog 9 #[.slice A n c, .int .i64 f] w fun e w' => ∃ p q, e = .returned (.pointer (some ⟨p, 0, none⟩)) ∧ w.heap.size ≤ p ∧ w.heap.size ≤ q ∧ DiskAt (fun b => w.heap.size ≤ b) w' p q (afterK l f n) ∧ Below w.heap.size w w' := by
  subst hl
  have HC := Lib.hid hc
  clear hc
  have HFW : Hid (∀ k, (fun b => w.heap.size ≤ b) k → w.heap.size ≤ k) := Lib.hid fun k h => h
  go_enter Try.func9, Try.ntmps9
  go_wp2_with fail
  refine (new_good 16 _ (by decide) (by decide) (fun b => w.heap.size ≤ b) (fun b h => h)).mono ?_
  rintro e w1 ⟨p, q, rfl, hp, hq, hd, hb⟩
  have D1 := Lib.hid hd
  have B1 := Lib.hid hb
  have HPQ := Lib.hid (And.intro hp hq)
  clear hd hb hp hq
  go_wp2_with fail
  go_loopw [17] (fun i wr => ∃ k : Nat, k ≤ l.length ∧ i = .int .i64 (k : Int) ∧ DiskAt (fun b => w.heap.size ≤ b) wr p q (afterK l f k) ∧ Below w.heap.size w wr) (fun i _ => l.length - (intOf i).toNat)
  case atStart => exact ⟨0, Nat.zero_le _, rfl, D1.out, B1.out⟩
  case round =>
    obtain ⟨k, hk, rfl, hDk, hb⟩ := hrel
    obtain ⟨cc, vv, hDk⟩ := hDk
    have DK := Lib.hid hDk
    have BK := Lib.hid hb
    have CK := Lib.hid (HC.out.keep hb)
    have VL := Lib.hid (fun g hg => (hDk.waits.lt g hg).2 : ∀ g, vv.ownBlock = some g → g < wr.heap.size)
    clear hDk hb D1 B1
    by_cases hlt : k < l.length
    · have HLV := Lib.hid (afterK_live l f k (by omega))
      have hstep : afterK l f (k + 1) = if ((k : Int) + 1) = f then flushed (written (afterK l f k) ((l.getD k (0, 0)).1.toNat % 16 : Nat) (List.replicate 128 (l.getD k (0, 0)).2)) else written (afterK l f k) ((l.getD k (0, 0)).1.toNat % 16 : Nat) (List.replicate 128 (l.getD k (0, 0)).2) := rfl
      rw [show l.getD k (0, 0) = l[k]'hlt by rw [List.getD_eq_getElem?_getD, List.getElem?_eq_getElem hlt]; rfl] at hstep
      have HST0 := Lib.hid hstep
      clear hstep
      obtain ⟨ab, ao, rfl, hcl⟩ := CK.out (by rw [putcells_length]; omega)
      have hp0 := hcl.cell (k * 2) (by rw [putcells_length]; omega)
      have hp1 := hcl.cell (k * 2 + 1) (by rw [putcells_length]; omega)
      obtain ⟨g0, g1⟩ := putcells_get l k (by omega)
      have hx0 : (putcells l)[k * 2]'(by rw [putcells_length]; omega) = .int .u8 (l[k].1.toNat : Int) := (List.getElem?_eq_some_iff.1 g0).2
      have hx1 : (putcells l)[k * 2 + 1]'(by rw [putcells_length]; omega) = .int .u8 (l[k].2.toNat : Int) := (List.getElem?_eq_some_iff.1 g1).2
      rw [hx0] at hp0
      rw [hx1, ← Nat.add_assoc] at hp1
      obtain ⟨x, hx⟩ : ∃ x, x = l[k]'(by omega) := ⟨_, rfl⟩
      rw [← hx] at hp0 hp1
      have HX := Lib.hid hx
      clear hx hx0 hx1 g0 g1 hcl
      have HST : Hid (afterK l f (k + 1) = if ((k : Int) + 1) = f then flushed (written (afterK l f k) (x.1.toNat % 16 : Nat) (List.replicate 128 x.2)) else written (afterK l f k) (x.1.toNat % 16 : Nat) (List.replicate 128 x.2)) := Lib.hid (by rw [HX.out]; exact HST0.out)
      have k0 : (0 : Int) ≤ (k : Int) := by omega
      have k1 : (k : Int) < (l.length : Int) := by omega
      have kw : IntKind.i64.wrap ((k : Int) + 1) = (k : Int) + 1 := IntWalk.i64_in _ (by omega)
      clear HST0 HX
      go_upto_region 7 with fail
      obtain ⟨w2, hw2⟩ : ∃ W : World, W = wr.alloc (.cells #[.int .u8 (x.1.toNat : Int), .int .u8 (x.2.toNat : Int)] 36) := ⟨_, rfl⟩
      have hb : Below wr.heap.size wr w2 := by rw [hw2]; exact (Below.refl _ wr).alloc (Nat.le_refl _) _
      have hx2 : MemC w2 wr.heap.size 0 [.int .u8 (x.1.toNat : Int), .int .u8 (x.2.toNat : Int)] := by rw [hw2]; exact MemC.new wr [.int .u8 (x.1.toNat : Int), .int .u8 (x.2.toNat : Int)] _
      rw [← hw2]
      have D2 := Lib.hid (DK.out.keep hb)
      have B2 := Lib.hid (BK.out.trans (hb.mono BK.out.size))
      have X := Lib.hid hx2
      have HV : Hid (p < wr.heap.size ∧ q < wr.heap.size ∧ ∀ g, vv.ownBlock = some g → g < wr.heap.size) := Lib.hid ⟨DK.out.lt.1, DK.out.lt.2, VL.out⟩
      obtain ⟨q8, hq8⟩ : ∃ y, y = wr.heap.size := ⟨_, rfl⟩
      rw [← hq8] at X HV ⊢
      clear hb hx2 hw2 hq8 DK BK VL CK hp0 hp1
      go_upto_region 7 with fail
      have bd : Below w2.heap.size w2 w2.drew := (Below.refl w2.heap.size w2).drew
      have DD := Lib.hid (D2.out.keep bd)
      have XD := Lib.hid (X.out.keep bd)
      have BD := Lib.hid (B2.out.trans (bd.mono B2.out.size))
      obtain ⟨wd, hwd⟩ : ∃ W : World, W = w2.drew := ⟨_, rfl⟩
      rw [← hwd] at DD XD BD
      have tx : (x.1.toNat : Int).tmod 16 = ((x.1.toNat % 16 : Nat) : Int) := by rw [Int.tmod_eq_emod_of_nonneg (by omega)]; rfl
      have wx : IntKind.i64.wrap ((x.1.toNat % 16 : Nat) : Int) = ((x.1.toNat % 16 : Nat) : Int) := IntWalk.i64_in _ (by omega)
      have wx2 : IntKind.i64.wrap ((x.1.toNat : Int) % 16) = (x.1.toNat : Int) % 16 := IntWalk.i64_in _ (by omega)
      have wu : IntKind.u8.wrap ((x.1.toNat % 16 : Nat) : Int) = ((x.1.toNat % 16 : Nat) : Int) := IntWalk.u8_in _ (by omega)
      have hS : wd.cell? ⟨q8, 0, none⟩ = some (.int .u8 (x.1.toNat : Int)) ∧ wd.cell? ⟨q8, 1, none⟩ = some (.int .u8 (x.2.toNat : Int)) := ⟨(XD.out.get 0 _ rfl).1, (XD.out.get 1 _ rfl).1⟩
      refine wp_region_held_drew (S := fun w' => w'.cell? ⟨q8, 0, none⟩ = some (.int .u8 (x.1.toNat : Int)) ∧ w'.cell? ⟨q8, 1, none⟩ = some (.int .u8 (x.2.toNat : Int))) (by kernel_rfl) (by rw [← hwd]; exact hS) (fun hHeld => ?_)
      rw [← hwd] at hHeld ⊢
      clear hwd bd hS D2 B2 X
      refine wpAnyH_take (i := 0) (v := .pointer (some ⟨p, 0, none⟩)) rfl (by kernel_rfl) (by kernel_rfl) (by kernel_rfl) (fun _ _ _ h => h) (Or.inl ⟨by kernel_rfl, fun w _ => by go_simp⟩) hHeld ?_
      try simp only [Act.put, List.getElem_toArray, List.getElem_cons_succ, List.getElem_cons_zero, List.setIfInBounds_toArray, List.set_cons_zero, List.set_cons_succ]
      refine wpAnyH_take (i := 1) (v := .pointer (some ⟨q8, 0, none⟩)) rfl (by kernel_rfl) (by kernel_rfl) (by kernel_rfl) (fun _ _ _ h => h) (Or.inl ⟨by kernel_rfl, fun w _ => by go_simp⟩) hHeld ?_
      try simp only [Act.put, List.getElem_toArray, List.getElem_cons_succ, List.getElem_cons_zero, List.setIfInBounds_toArray, List.set_cons_zero, List.set_cons_succ]
      refine wpAnyH_take (i := 2) (v := .int .u8 (x.1.toNat : Int)) rfl (by kernel_rfl) (by kernel_rfl) (by kernel_rfl) (fun _ _ _ h => h) (Or.inl ⟨by kernel_rfl, fun w h => by have hc := h.1; go_simp⟩) hHeld ?_
      try simp only [Act.put, List.getElem_toArray, List.getElem_cons_succ, List.getElem_cons_zero, List.setIfInBounds_toArray, List.set_cons_zero, List.set_cons_succ]
      refine wpAnyH_take (i := 3) (v := .int .u8 ((x.1.toNat % 16 : Nat) : Int)) rfl (by kernel_rfl) (by kernel_rfl) (by kernel_rfl) (fun _ _ _ h => h) (Or.inl ⟨by kernel_rfl, fun w _ => by go_simp⟩) hHeld ?_
      try simp only [Act.put, List.getElem_toArray, List.getElem_cons_succ, List.getElem_cons_zero, List.setIfInBounds_toArray, List.set_cons_zero, List.set_cons_succ]
      refine wpAnyH_take (i := 4) (v := .int .i64 ((x.1.toNat % 16 : Nat) : Int)) rfl (by kernel_rfl) (by kernel_rfl) (by kernel_rfl) (fun _ _ _ h => h) (Or.inl ⟨by kernel_rfl, fun w _ => by go_simp⟩) hHeld ?_
      try simp only [Act.put, List.getElem_toArray, List.getElem_cons_succ, List.getElem_cons_zero, List.setIfInBounds_toArray, List.set_cons_zero, List.set_cons_succ]
      refine wpAnyH_take (i := 5) (v := .pointer (some ⟨q8, 1, none⟩)) rfl (by kernel_rfl) (by kernel_rfl) (by kernel_rfl) (fun _ _ _ h => h) (Or.inl ⟨by kernel_rfl, fun w _ => by go_simp⟩) hHeld ?_
      try simp only [Act.put, List.getElem_toArray, List.getElem_cons_succ, List.getElem_cons_zero, List.setIfInBounds_toArray, List.set_cons_zero, List.set_cons_succ]
      refine wpAnyH_take (i := 6) (v := .int .u8 (x.2.toNat : Int)) rfl (by kernel_rfl) (by kernel_rfl) (by kernel_rfl) (fun _ _ _ h => h) (Or.inl ⟨by kernel_rfl, fun w h => by have hc := h.2; go_simp⟩) hHeld ?_
      try simp only [Act.put, List.getElem_toArray, List.getElem_cons_succ, List.getElem_cons_zero, List.setIfInBounds_toArray, List.set_cons_zero, List.set_cons_succ]
      refine wpAnyH_ready (rs := [7]) (by kernel_rfl) (by simp) ?_
      refine AllReadyH.cons rfl (fun K hK => ?_) AllReadyH.nil
      go_simp
      go_at_call 19
      refine (filled_any x.2 _).mono ?_
      rintro e we ⟨gf, rfl, hgf, hmf, hbf⟩
      have hin := DD.out.keep hbf
      have XE := XD.out.keep hbf
      have BE := Lib.hid (BD.out.trans (hbf.mono BD.out.size))
      refine hK.out _ _ ⟨(XE.get 0 _ rfl).1, (XE.get 1 _ rfl).1⟩ (fun hHeld => ?_)
      try simp only [Act.put, List.getElem_toArray, List.getElem_cons_succ, List.getElem_cons_zero, List.setIfInBounds_toArray, List.set_cons_zero, List.set_cons_succ]
      have hpl := DD.out.lt.1
      have hnt : ¬ Tight we p q vv q8 := fun h => by
        have hv := HV.out
        have hxl := XE.at_.lt
        rcases h with h | h | h | h
        · omega
        · omega
        · have := hv.2.2 _ h; omega
        · omega
      refine wpAnyH_ready (rs := [8]) (by kernel_rfl) (by simp) ?_
      refine AllReadyH.cons rfl (fun K hK => ?_) AllReadyH.nil
      go_simp
      go_at_call 18
      refine (write_any _ hin.tight ((x.1.toNat % 16 : Nat) : Int) (some ⟨gf, 0, none⟩) 128 128 (List.replicate 128 x.2) hmf.reads (fun a e => by injection e with e; rw [← e]; exact Nat.ne_of_gt (Nat.lt_of_lt_of_le hpl hgf)) (by have := HLV.out.few; omega)).mono ?_
      rintro e wf ⟨rfl, hdf, htf⟩
      rw [live_writeE HLV.out _ (Nat.mod_lt _ (by decide))]
      have XF := XE.turn htf hnt
      have D4 := Lib.hid (hdf.mono hin.tight_le)
      have B4 := Lib.hid (BE.out.trans ((htf.mono hin.tight_le).below HFW.out BE.out.size))
      have X4 := Lib.hid XF
      refine hK.out _ _ ⟨(XF.get 0 _ rfl).1, (XF.get 1 _ rfl).1⟩ (fun hHeld => ?_)
      try simp only [Act.put, List.getElem_toArray, List.getElem_cons_succ, List.getElem_cons_zero, List.setIfInBounds_toArray, List.set_cons_zero, List.set_cons_succ]
      clear hnt hdf htf XF XE BE hmf hgf hbf hin hpl DD XD BD
      refine wpAnyH_take (i := 9) (v := .bool false) rfl (by kernel_rfl) (by kernel_rfl) (by kernel_rfl) (fun _ _ _ h => h) (Or.inl ⟨by kernel_rfl, fun w _ => by go_simp⟩) hHeld ?_
      try simp only [Act.put, List.getElem_toArray, List.getElem_cons_succ, List.getElem_cons_zero, List.setIfInBounds_toArray, List.set_cons_zero, List.set_cons_succ]
      refine wpAnyH_done (by kernel_rfl) ?_ _
      clear hHeld tx wx wx2 wu HV X4
      have hL := HLV.out.write (by omega) (x.1.toNat % 16) (Nat.mod_lt _ (by decide)) (List.replicate 128 x.2) (by simp)
      have kw2 : IntKind.i64.wrap ((k : Int) + 1) = (k : Int) + 1 := kw
      have HLW := Lib.hid hL
      clear hL HLV
      by_cases hf : (k : Int) + 1 = f
      · have hq : (((k : Int) + 1) == f) = true := by rw [hf]; simp
        have HS2 : Hid (afterK l f (k + 1) = flushed (written (afterK l f k) (x.1.toNat % 16 : Nat) (List.replicate 128 x.2))) := Lib.hid (by rw [HST.out, if_pos hf])
        clear hf HST
        go_wp2_with fail
        refine (flush_any _ D4.out).mono ?_
        rintro e w5 ⟨rfl, hd, ht⟩
        rw [live_flushE HLW.out]
        have D5 : Hid (DiskAt (fun b => w.heap.size ≤ b) w5 p q (afterK l f (k + 1))) := Lib.hid (by rw [HS2.out]; exact hd)
        have B5 := Lib.hid (B4.out.trans (ht.below HFW.out B4.out.size))
        clear hd ht
        go_wp2_with fail
        go_roundw
        case rel => exact ⟨k + 1, by omega, by go_num, D5.out, B5.out⟩
        case measure => simp [intOf]; omega
      · have hq : (((k : Int) + 1) == f) = false := by simpa using hf
        have D5 : Hid (DiskAt (fun b => w.heap.size ≤ b) wf p q (afterK l f (k + 1))) := Lib.hid (by rw [HST.out, if_neg hf]; exact D4.out)
        clear hf HST
        go_wp2_with fail
        go_roundw
        case rel => exact ⟨k + 1, by omega, by go_num, D5.out, B4.out⟩
        case measure => simp [intOf]; omega
    · obtain rfl : k = l.length := by omega
      go_wp2_with fail
      go_ret
      exact ⟨_, _, rfl, HPQ.out.1, HPQ.out.2, ⟨_, _, DK.out⟩, BK.out⟩

end Go.Proofs.Ytdnhlpddnbholaa
