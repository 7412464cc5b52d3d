/-
  The document's disk: Flush.
-/
import Derived.Test.YtdnhlpddnbholaaDkZb
namespace Go.Proofs.Ytdnhlpddnbholaa
open Go.RowKit
set_option linter.unusedVariables false
set_option linter.unusedSimpArgs false
attribute [local go_sem ↓] Go.wp_at_zero Go.wp_at_succ

theorem own_empty_at (w : World) (base : Nat) (h : base ≤ w.heap.size) : (w.alloc (.cells #[] 97)).ownsRow base 97 2 (.slice (some ⟨w.heap.size, 0, none⟩) 0 0) 0 (tcells []) :=
  ⟨rfl, .inr ⟨w.heap.size, 0, #[], rfl, h, heap_alloc_new w _, Nat.le_refl _, Nat.zero_le _, rfl, rfl⟩⟩
theorem own_grown {w w' : World} {base n s : Nat} {e : TypeId} {v : Value} {xs : List Value} {row : Option Nat} (h : w.ownsRow base e s v n xs) (hg : w.grownBy w' row) (hne : ∀ g, v.ownBlock = some g → some g ≠ row) : w'.ownsRow base e s v n xs :=
  ⟨h.1, h.2.imp id fun ⟨g, cap, cur, e1, hb, hh, r⟩ => ⟨g, cap, cur, e1, hb, (hg.block g (Array.getElem?_eq_some_iff.1 hh).1 (hne g (by rw [e1]; rfl))).trans hh, r⟩⟩
theorem grown_turn {w w' : World} {row : Option Nat} (h : w.grownBy w' row) : Turn (fun b => some b = row) w w' := ⟨h.os, h.tape, h.output, h.size, fun k hk hn => h.block k hk hn⟩
section
variable {F : Nat → Prop} {r : Nat} {D : Dk} {C : List (Nat × List UInt8)}

/-- What came turns. -/
theorem RefIn.gone {w w' : World} {Ac Ac' : Option Addr} {cc cc' : Nat} {Aw : Option Addr} {wc : Nat} {D' : Dk} {C' : List (Nat × List UInt8)} (h : RefIn F w r Ac cc Aw wc D C) (hg : Below w.heap.size w w') (hA : Cells w' Ac' (tcells C')) (hA2 : ∀ a, Ac' = some a → w.heap.size ≤ a.block ∧ a.block < w'.heap.size) (hc : C'.length ≤ cc') (hm : cc' ≤ maxLen) (hk : D'.Ok) (hw : D'.waits = D.waits)
    (hb : D'.blks.length = D.blks.length) (hl : D'.left = D.left) (hd : D'.down = D.down) (hcok : ∀ x ∈ C', x.2.length = 128) (hagree : ∀ a, a < D.blks.length → standsL C' a = D'.blks.getD a []) (hfew : C'.length ≤ 1000) : RefIn F (w'.setCell ⟨r, 1, none⟩ (.slice Ac' C'.length cc')) r Ac' cc' Aw wc D' C' := by
  have hk2 := h.keep hg
  have hlt := h.lt
  have ht : Turn (fun b => b = r) w' (w'.setCell ⟨r, 1, none⟩ (.slice Ac' C'.length cc')) := Turn.set (F := fun b => b = r) w' rfl _
  have hs : (w'.setCell ⟨r, 1, none⟩ (.slice Ac' C'.length cc')).heap.size = w'.heap.size := by simp [World.setCell]
  refine ⟨hk, ?_, hA.turn ht (fun a e e2 => by have := hA2 a e; omega), by rw [hw]; exact hk2.waits.turn ht (fun a e => (h.fw a e).2.1), hc, hm, by rw [hw]; exact h.wcap, h.wcm, hcok, by rw [hb]; exact hagree, hfew, h.fr, fun a e => ⟨h.new _ (hA2 a e).1, by have := hA2 a e; omega, by rw [hs]; exact (hA2 a e).2⟩, fun a e => by rw [hs]; exact hk2.fw a e, fun b hB => hk2.new b (by rw [hs] at hB; exact hB)⟩
  rw [hb, hl, hd, hw]
  exact hk2.head.setAt 1 (by simp) (.slice Ac' C'.length cc')

theorem flush_step_ok {D : Dk} (h : D.Ok) {P : Dk} (hp : P.Ok) (h1 : P.blks = D.blks) (h2 : P.waits = D.waits) (k : Nat) (hk : k ≤ D.waits.length) : ({ P with blks := flushK D k } : Dk).Ok := by
  have hl := flushK_length D k
  exact ⟨fun i hi => flushK_blk h k hk i (by simpa [hl] using hi), fun x hx => by show x.1 < (flushK D k).length ∧ _; rw [hl, ← h1]; exact hp.wait x hx, by show 16 ≤ (flushK D k).length; rw [hl, ← h1]; exact hp.pos, by show (flushK D k).length ≤ 4096; rw [hl, ← h1]; exact hp.many, hp.few, hp.lo, hp.hi⟩
theorem flush_agree {D : Dk} (h : D.Ok) (k : Nat) (hk : k < D.waits.length) (hag : ∀ a, a < D.blks.length → standsL C a = (flushK D k).getD a []) : ∀ a, a < D.blks.length → standsL (C ++ [D.waits.getD k nW]) a = (flushK D (k + 1)).getD a [] := fun a ha => by
  obtain ⟨h1, h2⟩ := h.waitAt k hk
  have hl := flushK_length D k
  rw [standsL_snoc]
  show _ = (putB (flushK D k) (D.waits.getD k nW) 128).getD a []
  rw [putB_get _ _ _ _ (by rw [hl]; exact h1)]
  by_cases e : (D.waits.getD k nW).1 = a
  · rw [if_pos e, if_pos e, List.take_of_length_le (by omega), List.drop_of_length_le (by rw [flushK_blk h k (by omega) a (by omega)]; omega), List.append_nil]
  · rw [if_neg e, if_neg e]
    exact hag a ha
theorem take_snoc (l : List (Nat × List UInt8)) (k : Nat) (h : k < l.length) : l.take (k + 1) = l.take k ++ [l.getD k nW] := by
  rw [List.take_add_one, List.getElem?_eq_getElem h, List.getD_eq_getElem?_getD, List.getElem?_eq_getElem h]
  rfl

set_option maxRecDepth 100000 in
set_option maxHeartbeats 8000000 in
theorem flushref_in (w : World) (h : RefAt F w r D C) (hd : D.down = false) (hl : D.left ≠ 0) (hroom : C.length + D.waits.length ≤ 1000) :
    Calls Try.prog 35 #[.pointer (some ⟨r, 0, none⟩)] w fun e w' => e = .returned (.int .i64 0) ∧ RefAt F w' r (flushed D) (C ++ D.waits) ∧ Turn (fun b => b = r) w w' := by
  have HT := Lib.hid (through_any w h)
  have HFL : Hid (flushed D = { powered D with blks := flushK D D.waits.length, waits := [] }) := Lib.hid (by unfold flushed; rw [if_neg (by rw [hd]; decide), if_neg hl])
  have HOK : Hid D.Ok := by obtain ⟨_, _, _, _, h⟩ := h; exact Lib.hid h.ok
  have hp : powerE D = 0 := by unfold powerE; rw [if_neg hl]
  obtain ⟨h4, _⟩ : w.cell? ⟨r, 4, none⟩ = some (.bool D.down) ∧ True := by obtain ⟨_, _, _, _, h⟩ := h; exact ⟨(h.head.get 4 _ rfl).1, trivial⟩
  rw [hd] at h4
  rw [hp] at HT
  clear h hd hl hp
  go_enter Try.func35, Try.ntmps35
  go_wp2_with fail
  refine HT.out.mono ?_
  rintro e w1 ⟨rfl, hr, ht⟩
  obtain ⟨Ac, cc, Aw, wc, hr⟩ := hr
  obtain ⟨kb, kw⟩ := powered_keeps D
  have HP := Lib.hid (powered_ok HOK.out)
  have KB := Lib.hid kb
  have KW := Lib.hid kw
  have HTN := Lib.hid ht
  generalize powered D = P at *
  have hstart : RefIn F w1 r Ac cc Aw wc { P with blks := flushK D 0 } (C ++ D.waits.take 0) := by
    rw [List.take_zero, List.append_nil, show flushK D 0 = P.blks from kb.symm]
    exact hr
  have HR := Lib.hid hstart
  clear hr ht h4 HT kb kw hstart
  go_wp2_with fail
  go_loopw [3] (fun i wr => ∃ k : Nat, k ≤ D.waits.length ∧ i = .int .i64 (k : Int) ∧ (∃ Ac cc, RefIn F wr r Ac cc Aw wc { P with blks := flushK D k } (C ++ D.waits.take k)) ∧ Turn (fun b => b = r) w wr) (fun i _ => D.waits.length - (intOf i).toNat)
  case atStart => exact ⟨0, Nat.zero_le _, rfl, ⟨_, _, HR.out⟩, HTN.out⟩
  case round =>
    obtain ⟨k, hk, rfl, ⟨Ac, cc, hri⟩, ht⟩ := hrel
    have RK := Lib.hid hri
    have TK := Lib.hid ht
    clear hri ht HR HTN
    obtain ⟨c2, f2⟩ := RK.out.head.get 2 _ rfl
    rw [KW.out] at c2
    by_cases hlt : k < D.waits.length
    · have k0 : (0 : Int) ≤ (k : Int) := by omega
      have k1 : (k : Int) < (D.waits.length : Int) := by omega
      have kw : IntKind.i64.wrap ((k : Int) + 1) = (k : Int) + 1 := IntWalk.i64_in _ (by omega)
      obtain ⟨CK, hCK⟩ : ∃ CK, CK = C ++ D.waits.take k := ⟨_, rfl⟩
      have HCK := Lib.hid hCK
      have hcl : CK.length + 1 ≤ 1000 := by rw [hCK, List.length_append, List.length_take]; omega
      rw [← hCK] at RK
      have hww := RK.out.waits
      rw [show ({ P with blks := flushK D k } : Dk).waits = D.waits from KW.out] at hww
      obtain ⟨b, o, rfl, hb, d0, d1⟩ := hww.wait (k := k) hlt
      obtain ⟨x, hx⟩ : ∃ x, D.waits.getD k nW = x := ⟨_, rfl⟩
      rw [hx] at d0 d1
      have HX := Lib.hid hx
      have HD0 := Lib.hid (And.intro d0 d1)
      have HBL := Lib.hid hb
      clear hx hww hCK hb f2 d0 d1
      go_upto_region 6 with fail
      clear c2
      obtain ⟨W, hW⟩ : ∃ V : World, V = wr.drew := ⟨_, rfl⟩
      have bd : Below wr.heap.size wr W := by rw [hW]; exact (Below.refl wr.heap.size wr).drew
      have RD := Lib.hid (RK.out.keep bd)
      have TD := Lib.hid (TK.out.trans (Turn.of_below bd))
      have HS : Hid (∀ w', Below W.heap.size W w' → w'.cell? ⟨r, 2, none⟩ = some (.slice (some ⟨b, o, none⟩) D.waits.length wc) ∧ w'.cell? ⟨b, o + k * 2, none⟩ = some (.int .i64 (x.1 : Int)) ∧ w'.cell? ⟨b, o + k * 2 + 1, none⟩ = some (.string ⟨x.2.toArray⟩)) := Lib.hid fun w' hb => by
        have e2 := ((RD.out.keep hb).head.get 2 _ rfl).1
        rw [KW.out] at e2
        have hbw : b < W.heap.size := Nat.lt_of_lt_of_le HBL.out bd.size
        exact ⟨e2, (hb.cell (p := ⟨b, o + k * 2, none⟩) hbw).trans ((bd.cell (p := ⟨b, o + k * 2, none⟩) HBL.out).trans HD0.out.1), (hb.cell (p := ⟨b, o + k * 2 + 1, none⟩) hbw).trans ((bd.cell (p := ⟨b, o + k * 2 + 1, none⟩) HBL.out).trans HD0.out.2)⟩
      refine wp_region_held_drew (S := fun w' => w'.cell? ⟨r, 2, none⟩ = some (.slice (some ⟨b, o, none⟩) D.waits.length wc) ∧ w'.cell? ⟨b, o + k * 2, none⟩ = some (.int .i64 (x.1 : Int)) ∧ w'.cell? ⟨b, o + k * 2 + 1, none⟩ = some (.string ⟨x.2.toArray⟩)) (by kernel_rfl) (by rw [← hW]; exact HS.out _ (Below.refl _ _)) (fun hHeld => ?_)
      rw [← hW] at hHeld ⊢
      have HC1 : Hid (∀ w', Below W.heap.size W w' → w'.cell? ⟨r, 1, none⟩ = some (.slice Ac CK.length cc)) := Lib.hid fun w' hb => ((RD.out.keep hb).head.get 1 _ rfl).1
      have HCM : Hid (∀ w', Below W.heap.size W w' → Cells w' Ac (tcells CK)) := Lib.hid fun w' hb => (RD.out.keep hb).came
      have BW := Lib.hid (Below.refl W.heap.size W)
      obtain ⟨N0, hN0⟩ : ∃ N, N = W.heap.size := ⟨_, rfl⟩
      rw [← hN0] at HS HC1 HCM BW
      have HN0 := Lib.hid hN0
      have HBR := Lib.hid (show b ≠ r from (RD.out.fw _ rfl).2.1)
      clear hW bd RK TK HD0 HBL hN0
      refine wpAnyH_take (i := 0) (v := .pointer (some ⟨r, 0, none⟩)) rfl (by kernel_rfl) (by kernel_rfl) (by kernel_rfl) (fun _ _ _ h => h) (Or.inl ⟨by kernel_rfl, fun w _ => by go_simp⟩) hHeld ?_
      try simp only [Act.put, List.getElem_toArray, List.getElem_cons_succ, List.getElem_cons_zero, List.setIfInBounds_toArray, List.set_cons_zero, List.set_cons_succ]
      refine wpAnyH_take (i := 2) (v := .pointer (some ⟨r, 0, none⟩)) rfl (by kernel_rfl) (by kernel_rfl) (by kernel_rfl) (fun _ _ _ h => h) (Or.inl ⟨by kernel_rfl, fun w _ => by go_simp⟩) hHeld ?_
      try simp only [Act.put, List.getElem_toArray, List.getElem_cons_succ, List.getElem_cons_zero, List.setIfInBounds_toArray, List.set_cons_zero, List.set_cons_succ]
      refine wpAnyH_take (i := 3) (v := .pointer (some ⟨r, 0, none⟩)) rfl (by kernel_rfl) (by kernel_rfl) (by kernel_rfl) (fun _ _ _ h => h) (Or.inl ⟨by kernel_rfl, fun w _ => by go_simp⟩) hHeld ?_
      try simp only [Act.put, List.getElem_toArray, List.getElem_cons_succ, List.getElem_cons_zero, List.setIfInBounds_toArray, List.set_cons_zero, List.set_cons_succ]
      refine wpAnyH_take (i := 4) (v := .pointer (some ⟨r, 1, none⟩)) rfl (by kernel_rfl) (by kernel_rfl) (by kernel_rfl) (fun _ _ _ h => h) (Or.inl ⟨by kernel_rfl, fun w _ => by go_simp⟩) hHeld ?_
      try simp only [Act.put, List.getElem_toArray, List.getElem_cons_succ, List.getElem_cons_zero, List.setIfInBounds_toArray, List.set_cons_zero, List.set_cons_succ]
      refine wpAnyH_take (i := 7) (v := .pointer (some ⟨r, 0, none⟩)) rfl (by kernel_rfl) (by kernel_rfl) (by kernel_rfl) (fun _ _ _ h => h) (Or.inl ⟨by kernel_rfl, fun w _ => by go_simp⟩) hHeld ?_
      try simp only [Act.put, List.getElem_toArray, List.getElem_cons_succ, List.getElem_cons_zero, List.setIfInBounds_toArray, List.set_cons_zero, List.set_cons_succ]
      refine wpAnyH_take (i := 8) (v := .pointer (some ⟨r, 0, none⟩)) rfl (by kernel_rfl) (by kernel_rfl) (by kernel_rfl) (fun _ _ _ h => h) (Or.inl ⟨by kernel_rfl, fun w _ => by go_simp⟩) hHeld ?_
      try simp only [Act.put, List.getElem_toArray, List.getElem_cons_succ, List.getElem_cons_zero, List.setIfInBounds_toArray, List.set_cons_zero, List.set_cons_succ]
      refine wpAnyH_take (i := 9) (v := .pointer (some ⟨r, 2, none⟩)) rfl (by kernel_rfl) (by kernel_rfl) (by kernel_rfl) (fun _ _ _ h => h) (Or.inl ⟨by kernel_rfl, fun w _ => by go_simp⟩) hHeld ?_
      try simp only [Act.put, List.getElem_toArray, List.getElem_cons_succ, List.getElem_cons_zero, List.setIfInBounds_toArray, List.set_cons_zero, List.set_cons_succ]
      refine wpAnyH_take (i := 10) (v := .slice (some ⟨b, o, none⟩) D.waits.length wc) rfl (by kernel_rfl) (by kernel_rfl) (by kernel_rfl) (fun _ _ _ h => h) (Or.inl ⟨by kernel_rfl, fun w h => by have hc := h.1; go_simp⟩) hHeld ?_
      try simp only [Act.put, List.getElem_toArray, List.getElem_cons_succ, List.getElem_cons_zero, List.setIfInBounds_toArray, List.set_cons_zero, List.set_cons_succ]
      refine wpAnyH_take (i := 11) (v := .int .i64 (k : Int)) rfl (by kernel_rfl) (by kernel_rfl) (by kernel_rfl) (fun _ _ _ h => h) (Or.inl ⟨by kernel_rfl, fun w _ => by go_simp⟩) hHeld ?_
      try simp only [Act.put, List.getElem_toArray, List.getElem_cons_succ, List.getElem_cons_zero, List.setIfInBounds_toArray, List.set_cons_zero, List.set_cons_succ]
      refine wpAnyH_take (i := 12) (v := .pointer (some ⟨b, o + k * 2, none⟩)) rfl (by kernel_rfl) (by kernel_rfl) (by kernel_rfl) (fun _ _ _ h => h) (Or.inl ⟨by kernel_rfl, fun w _ => by go_simp⟩) hHeld ?_
      try simp only [Act.put, List.getElem_toArray, List.getElem_cons_succ, List.getElem_cons_zero, List.setIfInBounds_toArray, List.set_cons_zero, List.set_cons_succ]
      refine wpAnyH_take (i := 13) (v := .agg #[.int .i64 (x.1 : Int), .string ⟨x.2.toArray⟩]) rfl (by kernel_rfl) (by kernel_rfl) (by kernel_rfl) (fun _ _ _ h => h) (Or.inl ⟨by kernel_rfl, fun w h => by have hc := h.2.1; have hd := h.2.2; go_simp⟩) hHeld ?_
      try simp only [Act.put, List.getElem_toArray, List.getElem_cons_succ, List.getElem_cons_zero, List.setIfInBounds_toArray, List.set_cons_zero, List.set_cons_succ]
      refine wpAnyH_ready (rs := [1, 5, 14]) (by kernel_rfl) (by simp) ?_
      refine AllReadyH.cons rfl (fun K hK => ?_) (AllReadyH.cons rfl (fun K hK => ?_) (AllReadyH.cons rfl (fun K hK => ?_) AllReadyH.nil))
      · go_simp
        have ba : Below W.heap.size W (W.alloc (.cells #[] 97)) := (Below.refl _ W).alloc (Nat.le_refl _) _
        have Ew3 := Lib.hid (own_empty_at W N0 (by have := HN0.out; have := BW.out.size; omega))
        have Bw3 := Lib.hid (BW.out.trans (ba.mono (by have := HN0.out; have := BW.out.size; omega)))
        obtain ⟨g0, hg0⟩ : ∃ y, y = W.heap.size := ⟨_, rfl⟩
        obtain ⟨w3, hw⟩ : ∃ V : World, V = W.alloc (.cells #[] 97) := ⟨_, rfl⟩
        rw [← hw] at Ew3 Bw3 ⊢
        rw [← hg0] at Ew3 ⊢
        clear hw ba hg0
        refine hK.out _ _ (HS.out _ Bw3.out) (fun hHeld => ?_)
        try simp only [Act.put, List.getElem_toArray, List.getElem_cons_succ, List.getElem_cons_zero, List.setIfInBounds_toArray, List.set_cons_zero, List.set_cons_succ]
        refine wpAnyH_ready (rs := [5, 14]) (by kernel_rfl) (by simp) ?_
        refine AllReadyH.cons rfl (fun K hK => ?_) (AllReadyH.cons rfl (fun K hK => ?_) AllReadyH.nil)
        · have hcc := HC1.out _ Bw3.out
          go_simp
          clear hcc
          refine hK.out _ _ hHeld (fun hHeld => ?_)
          try simp only [Act.put, List.getElem_toArray, List.getElem_cons_succ, List.getElem_cons_zero, List.setIfInBounds_toArray, List.set_cons_zero, List.set_cons_succ]
          refine wpAnyH_ready (rs := [6, 14]) (by kernel_rfl) (by simp) ?_
          refine AllReadyH.cons rfl (fun K hK => ?_) (AllReadyH.cons rfl (fun K hK => ?_) AllReadyH.nil)
          · rw [if_pos (show Region.wanted _ _ = true by kernel_rfl)]
            refine wp_appendC (.tmp 23) (.tmp 27) 49 rfl N0 97 (.agg #[.int .i64 0, .string ⟨#[]⟩]) 2 24 Try.underlying49 waitinfo rfl (by omega) (.slice (some ⟨g0, 0, none⟩) 0 0) 0 (tcells []) rfl Ew3.out Ac CK.length cc (tcells CK) rfl (tcells_length _) (HCM.out _ Bw3.out) (tcell_oneCell _) (by simp only [maxLen]; omega) (by omega) (by have := HN0.out; have := Bw3.out.size; omega) ?_
            intro v1 w5 hown hgrow _ _
            rw [show tcells [] ++ tcells CK = tcells CK from rfl] at hown
            try rw [Nat.zero_add] at hown
            have Bw5 := Lib.hid (Bw3.out.grown hgrow (by have := HN0.out; have := Bw3.out.size; omega) (own_base Ew3.out))
            have Ow5 := Lib.hid hown
            clear hown hgrow
            refine hK.out _ _ (HS.out _ Bw5.out) (fun hHeld => ?_)
            try simp only [Act.put, List.getElem_toArray, List.getElem_cons_succ, List.getElem_cons_zero, List.setIfInBounds_toArray, List.set_cons_zero, List.set_cons_succ]
            refine wpAnyH_ready (rs := [14]) (by kernel_rfl) (by simp) ?_
            refine AllReadyH.cons rfl (fun K hK => ?_) AllReadyH.nil
            go_simp
            have ba : Below w5.heap.size w5 (w5.alloc (.cells #[.int .i64 (x.1 : Int), .string ⟨x.2.toArray⟩] 97)) := (Below.refl _ w5).alloc (Nat.le_refl _) _
            have Xw6 := Lib.hid (MemC.new w5 (tcells [x]) 97)
            have Bw6 := Lib.hid (Bw5.out.trans (ba.mono (by have := HN0.out; have := Bw5.out.size; omega)))
            have Ow6 := Lib.hid (Ow5.out.alloc (.cells #[.int .i64 (x.1 : Int), .string ⟨x.2.toArray⟩] 97))
            obtain ⟨gx, hgx⟩ : ∃ y, y = w5.heap.size := ⟨_, rfl⟩
            obtain ⟨w6, hw⟩ : ∃ V : World, V = w5.alloc (.cells #[.int .i64 (x.1 : Int), .string ⟨x.2.toArray⟩] 97) := ⟨_, rfl⟩
            rw [show (w5.alloc (.cells (tcells [x]).toArray 97)) = w6 by rw [hw]; rfl] at Xw6
            rw [← hw] at Bw6 Ow6 ⊢
            rw [← hgx] at Xw6 ⊢
            clear hw ba hgx
            refine hK.out _ _ (HS.out _ Bw6.out) (fun hHeld => ?_)
            try simp only [Act.put, List.getElem_toArray, List.getElem_cons_succ, List.getElem_cons_zero, List.setIfInBounds_toArray, List.set_cons_zero, List.set_cons_succ]
            refine wpAnyH_ready (rs := [15]) (by kernel_rfl) (by simp) ?_
            refine AllReadyH.cons rfl (fun K hK => ?_) AllReadyH.nil
            rw [if_pos (show Region.wanted _ _ = true by kernel_rfl)]
            refine wp_appendC (.tmp 28) (.tmp 36) 49 rfl N0 97 (.agg #[.int .i64 0, .string ⟨#[]⟩]) 2 24 Try.underlying49 waitinfo rfl (by omega) v1 CK.length (tcells CK) rfl Ow6.out (some ⟨gx, 0, none⟩) 1 1 (tcells [x]) rfl rfl Xw6.out.cells (tcell_oneCell _) (by simp only [maxLen]; omega) (by omega) (by have := HN0.out; have := Bw6.out.size; omega) ?_
            intro v2 w9 hown hgrow _ _
            have hb4 := Bw6.out.grown hgrow (by have := HN0.out; have := Bw6.out.size; omega) (own_base Ow6.out)
            rw [← tcells_append] at hown
            obtain ⟨A4, c4, rfl, hl4, hc4, hn4, hm4, ha4⟩ := own_readsT hown
            have HS9 := Lib.hid (HS.out _ hb4)
            rw [HN0.out] at hb4 ha4
            have B4 := Lib.hid hb4
            have C4 := Lib.hid hc4
            have A4L := Lib.hid ha4
            clear hown hgrow hb4 hc4 ha4
            refine hK.out _ _ HS9.out (fun hHeld => ?_)
            try simp only [Act.put, List.getElem_toArray, List.getElem_cons_succ, List.getElem_cons_zero, List.setIfInBounds_toArray, List.set_cons_zero, List.set_cons_succ]
            refine wpAnyH_take (i := 16) (v := .pointer (some ⟨r, 0, none⟩)) rfl (by kernel_rfl) (by kernel_rfl) (by kernel_rfl) (fun _ _ _ h => h) (Or.inl ⟨by kernel_rfl, fun w _ => by go_simp⟩) hHeld ?_
            try simp only [Act.put, List.getElem_toArray, List.getElem_cons_succ, List.getElem_cons_zero, List.setIfInBounds_toArray, List.set_cons_zero, List.set_cons_succ]
            refine wpAnyH_take (i := 17) (v := .pointer (some ⟨r, 1, none⟩)) rfl (by kernel_rfl) (by kernel_rfl) (by kernel_rfl) (fun _ _ _ h => h) (Or.inl ⟨by kernel_rfl, fun w _ => by go_simp⟩) hHeld ?_
            try simp only [Act.put, List.getElem_toArray, List.getElem_cons_succ, List.getElem_cons_zero, List.setIfInBounds_toArray, List.set_cons_zero, List.set_cons_succ]
            have RE := RD.out.keep B4.out
            obtain ⟨j1, j2⟩ := RE.head.get 1 _ rfl
            refine wpAnyH_ready (rs := [18]) (by kernel_rfl) (by simp) ?_
            refine AllReadyH.cons rfl (fun K hK => ?_) AllReadyH.nil
            go_simp
            clear j1 j2 RE
            have hok2 := flush_step_ok HOK.out HP.out KB.out KW.out (k + 1) (by omega)
            have hfin := RD.out.gone (D' := { P with blks := flushK D (k + 1) }) (C' := CK ++ [x]) B4.out C4.out A4L.out (by rw [hl4]; exact hn4) hm4 hok2 rfl (by show (flushK D (k + 1)).length = (flushK D k).length; rw [flushK_length, flushK_length]) rfl rfl (fun y hy => by
              rcases List.mem_append.1 hy with h | h
              · exact RD.out.cok y h
              · rw [List.mem_singleton.1 h, ← HX.out]; exact (HOK.out.waitAt k hlt).2) (by
              have hag := RD.out.agree
              have h2 := flush_agree (C := CK) HOK.out k hlt (fun a ha => hag a (by show a < (flushK D k).length; rw [flushK_length]; exact ha))
              rw [HX.out] at h2
              intro a ha
              exact h2 a (by have : a < (flushK D k).length := ha; rwa [flushK_length] at this)) (by rw [List.length_append, List.length_singleton]; omega)
            rw [hl4] at hfin
            have s2 := (hfin.head.get 2 _ rfl).1
            rw [show ({ P with blks := flushK D (k + 1) } : Dk).waits = D.waits from KW.out] at s2
            have R5 : Hid (∃ Ac cc, RefIn F (w9.setCell ⟨r, 1, none⟩ (.slice A4 (CK.length + 1) c4)) r Ac cc (some ⟨b, o, none⟩) wc { P with blks := flushK D (k + 1) } (C ++ D.waits.take (k + 1))) := Lib.hid ⟨_, _, by rw [take_snoc _ _ hlt, ← List.append_assoc, ← HCK.out, HX.out]; exact hfin⟩
            have T5 := Lib.hid ((TD.out.trans (Turn.of_below B4.out)).trans (Turn.set (F := fun b => b = r) (i := 1) w9 rfl (.slice A4 (CK.length + 1) c4)))
            have far : ∀ i, (w9.setCell ⟨r, 1, none⟩ (.slice A4 (CK.length + 1) c4)).cell? ⟨b, i, none⟩ = w9.cell? ⟨b, i, none⟩ := fun i => World.cell?_setCell_other w9 ⟨r, 1, none⟩ ⟨b, i, none⟩ _ (fun e => by injection e with e; exact HBR.out e.symm)
            refine hK.out _ _ ⟨s2, (far _).trans HS9.out.2.1, (far _).trans HS9.out.2.2⟩ (fun hHeld => ?_)
            try simp only [Act.put, List.getElem_toArray, List.getElem_cons_succ, List.getElem_cons_zero, List.setIfInBounds_toArray, List.set_cons_zero, List.set_cons_succ]
            clear hfin s2 hok2 far
            refine wpAnyH_done (by kernel_rfl) ?_ _
            clear hHeld
            go_wp2_with fail
            go_roundw
            case rel => exact ⟨k + 1, by omega, by go_num, R5.out, T5.out⟩
            case measure => simp [intOf]; omega
          · go_simp
            have HLT := Lib.hid (show g0 < w3.heap.size from (Ew3.out.lt _ rfl).2)
            have ba : Below w3.heap.size w3 (w3.alloc (.cells #[.int .i64 (x.1 : Int), .string ⟨x.2.toArray⟩] 97)) := (Below.refl _ w3).alloc (Nat.le_refl _) _
            have Xw5 := Lib.hid (MemC.new w3 (tcells [x]) 97)
            have Bw5 := Lib.hid (Bw3.out.trans (ba.mono (by have := HN0.out; have := Bw3.out.size; omega)))
            have Ew5 := Lib.hid (Ew3.out.alloc (.cells #[.int .i64 (x.1 : Int), .string ⟨x.2.toArray⟩] 97))
            obtain ⟨gx, hgx⟩ : ∃ y, y = w3.heap.size := ⟨_, rfl⟩
            obtain ⟨w5, hw⟩ : ∃ V : World, V = w3.alloc (.cells #[.int .i64 (x.1 : Int), .string ⟨x.2.toArray⟩] 97) := ⟨_, rfl⟩
            rw [show (w3.alloc (.cells (tcells [x]).toArray 97)) = w5 by rw [hw]; rfl] at Xw5
            rw [← hw] at Bw5 Ew5 ⊢
            rw [← hgx] at Xw5 ⊢
            have HNE := Lib.hid (show gx ≠ g0 by have := HLT.out; omega)
            clear hw ba hgx
            refine hK.out _ _ (HS.out _ Bw5.out) (fun hHeld => ?_)
            try simp only [Act.put, List.getElem_toArray, List.getElem_cons_succ, List.getElem_cons_zero, List.setIfInBounds_toArray, List.set_cons_zero, List.set_cons_succ]
            refine wpAnyH_ready (rs := [6]) (by kernel_rfl) (by simp) ?_
            refine AllReadyH.cons rfl (fun K hK => ?_) AllReadyH.nil
            rw [if_pos (show Region.wanted _ _ = true by kernel_rfl)]
            refine wp_appendC (.tmp 23) (.tmp 27) 49 rfl N0 97 (.agg #[.int .i64 0, .string ⟨#[]⟩]) 2 24 Try.underlying49 waitinfo rfl (by omega) (.slice (some ⟨g0, 0, none⟩) 0 0) 0 (tcells []) rfl Ew5.out Ac CK.length cc (tcells CK) rfl (tcells_length _) (HCM.out _ Bw5.out) (tcell_oneCell _) (by simp only [maxLen]; omega) (by omega) (by have := HN0.out; have := Bw5.out.size; omega) ?_
            intro v1 w6 hown hgrow _ _
            rw [show tcells [] ++ tcells CK = tcells CK from rfl] at hown
            try rw [Nat.zero_add] at hown
            have Bw6 := Lib.hid (Bw5.out.grown hgrow (by have := HN0.out; have := Bw5.out.size; omega) (own_base Ew5.out))
            have Ow6 := Lib.hid hown
            have Xw6 := Lib.hid (Xw5.out.turn (grown_turn hgrow) (by simpa [Value.ownBlock] using HNE.out))
            clear hown hgrow
            refine hK.out _ _ (HS.out _ Bw6.out) (fun hHeld => ?_)
            try simp only [Act.put, List.getElem_toArray, List.getElem_cons_succ, List.getElem_cons_zero, List.setIfInBounds_toArray, List.set_cons_zero, List.set_cons_succ]
            refine wpAnyH_ready (rs := [15]) (by kernel_rfl) (by simp) ?_
            refine AllReadyH.cons rfl (fun K hK => ?_) AllReadyH.nil
            rw [if_pos (show Region.wanted _ _ = true by kernel_rfl)]
            refine wp_appendC (.tmp 28) (.tmp 36) 49 rfl N0 97 (.agg #[.int .i64 0, .string ⟨#[]⟩]) 2 24 Try.underlying49 waitinfo rfl (by omega) v1 CK.length (tcells CK) rfl Ow6.out (some ⟨gx, 0, none⟩) 1 1 (tcells [x]) rfl rfl Xw6.out.cells (tcell_oneCell _) (by simp only [maxLen]; omega) (by omega) (by have := HN0.out; have := Bw6.out.size; omega) ?_
            intro v2 w9 hown hgrow _ _
            have hb4 := Bw6.out.grown hgrow (by have := HN0.out; have := Bw6.out.size; omega) (own_base Ow6.out)
            rw [← tcells_append] at hown
            obtain ⟨A4, c4, rfl, hl4, hc4, hn4, hm4, ha4⟩ := own_readsT hown
            have HS9 := Lib.hid (HS.out _ hb4)
            rw [HN0.out] at hb4 ha4
            have B4 := Lib.hid hb4
            have C4 := Lib.hid hc4
            have A4L := Lib.hid ha4
            clear hown hgrow hb4 hc4 ha4
            refine hK.out _ _ HS9.out (fun hHeld => ?_)
            try simp only [Act.put, List.getElem_toArray, List.getElem_cons_succ, List.getElem_cons_zero, List.setIfInBounds_toArray, List.set_cons_zero, List.set_cons_succ]
            refine wpAnyH_take (i := 16) (v := .pointer (some ⟨r, 0, none⟩)) rfl (by kernel_rfl) (by kernel_rfl) (by kernel_rfl) (fun _ _ _ h => h) (Or.inl ⟨by kernel_rfl, fun w _ => by go_simp⟩) hHeld ?_
            try simp only [Act.put, List.getElem_toArray, List.getElem_cons_succ, List.getElem_cons_zero, List.setIfInBounds_toArray, List.set_cons_zero, List.set_cons_succ]
            refine wpAnyH_take (i := 17) (v := .pointer (some ⟨r, 1, none⟩)) rfl (by kernel_rfl) (by kernel_rfl) (by kernel_rfl) (fun _ _ _ h => h) (Or.inl ⟨by kernel_rfl, fun w _ => by go_simp⟩) hHeld ?_
            try simp only [Act.put, List.getElem_toArray, List.getElem_cons_succ, List.getElem_cons_zero, List.setIfInBounds_toArray, List.set_cons_zero, List.set_cons_succ]
            have RE := RD.out.keep B4.out
            obtain ⟨j1, j2⟩ := RE.head.get 1 _ rfl
            refine wpAnyH_ready (rs := [18]) (by kernel_rfl) (by simp) ?_
            refine AllReadyH.cons rfl (fun K hK => ?_) AllReadyH.nil
            go_simp
            clear j1 j2 RE
            have hok2 := flush_step_ok HOK.out HP.out KB.out KW.out (k + 1) (by omega)
            have hfin := RD.out.gone (D' := { P with blks := flushK D (k + 1) }) (C' := CK ++ [x]) B4.out C4.out A4L.out (by rw [hl4]; exact hn4) hm4 hok2 rfl (by show (flushK D (k + 1)).length = (flushK D k).length; rw [flushK_length, flushK_length]) rfl rfl (fun y hy => by
              rcases List.mem_append.1 hy with h | h
              · exact RD.out.cok y h
              · rw [List.mem_singleton.1 h, ← HX.out]; exact (HOK.out.waitAt k hlt).2) (by
              have hag := RD.out.agree
              have h2 := flush_agree (C := CK) HOK.out k hlt (fun a ha => hag a (by show a < (flushK D k).length; rw [flushK_length]; exact ha))
              rw [HX.out] at h2
              intro a ha
              exact h2 a (by have : a < (flushK D k).length := ha; rwa [flushK_length] at this)) (by rw [List.length_append, List.length_singleton]; omega)
            rw [hl4] at hfin
            have s2 := (hfin.head.get 2 _ rfl).1
            rw [show ({ P with blks := flushK D (k + 1) } : Dk).waits = D.waits from KW.out] at s2
            have R5 : Hid (∃ Ac cc, RefIn F (w9.setCell ⟨r, 1, none⟩ (.slice A4 (CK.length + 1) c4)) r Ac cc (some ⟨b, o, none⟩) wc { P with blks := flushK D (k + 1) } (C ++ D.waits.take (k + 1))) := Lib.hid ⟨_, _, by rw [take_snoc _ _ hlt, ← List.append_assoc, ← HCK.out, HX.out]; exact hfin⟩
            have T5 := Lib.hid ((TD.out.trans (Turn.of_below B4.out)).trans (Turn.set (F := fun b => b = r) (i := 1) w9 rfl (.slice A4 (CK.length + 1) c4)))
            have far : ∀ i, (w9.setCell ⟨r, 1, none⟩ (.slice A4 (CK.length + 1) c4)).cell? ⟨b, i, none⟩ = w9.cell? ⟨b, i, none⟩ := fun i => World.cell?_setCell_other w9 ⟨r, 1, none⟩ ⟨b, i, none⟩ _ (fun e => by injection e with e; exact HBR.out e.symm)
            refine hK.out _ _ ⟨s2, (far _).trans HS9.out.2.1, (far _).trans HS9.out.2.2⟩ (fun hHeld => ?_)
            try simp only [Act.put, List.getElem_toArray, List.getElem_cons_succ, List.getElem_cons_zero, List.setIfInBounds_toArray, List.set_cons_zero, List.set_cons_succ]
            clear hfin s2 hok2 far
            refine wpAnyH_done (by kernel_rfl) ?_ _
            clear hHeld
            go_wp2_with fail
            go_roundw
            case rel => exact ⟨k + 1, by omega, by go_num, R5.out, T5.out⟩
            case measure => simp [intOf]; omega
        · go_simp
          have HLT := Lib.hid (show g0 < w3.heap.size from (Ew3.out.lt _ rfl).2)
          have ba : Below w3.heap.size w3 (w3.alloc (.cells #[.int .i64 (x.1 : Int), .string ⟨x.2.toArray⟩] 97)) := (Below.refl _ w3).alloc (Nat.le_refl _) _
          have Xw4 := Lib.hid (MemC.new w3 (tcells [x]) 97)
          have Bw4 := Lib.hid (Bw3.out.trans (ba.mono (by have := HN0.out; have := Bw3.out.size; omega)))
          have Ew4 := Lib.hid (Ew3.out.alloc (.cells #[.int .i64 (x.1 : Int), .string ⟨x.2.toArray⟩] 97))
          obtain ⟨gx, hgx⟩ : ∃ y, y = w3.heap.size := ⟨_, rfl⟩
          obtain ⟨w4, hw⟩ : ∃ V : World, V = w3.alloc (.cells #[.int .i64 (x.1 : Int), .string ⟨x.2.toArray⟩] 97) := ⟨_, rfl⟩
          rw [show (w3.alloc (.cells (tcells [x]).toArray 97)) = w4 by rw [hw]; rfl] at Xw4
          rw [← hw] at Bw4 Ew4 ⊢
          rw [← hgx] at Xw4 ⊢
          have HNE := Lib.hid (show gx ≠ g0 by have := HLT.out; omega)
          clear hw ba hgx
          refine hK.out _ _ (HS.out _ Bw4.out) (fun hHeld => ?_)
          try simp only [Act.put, List.getElem_toArray, List.getElem_cons_succ, List.getElem_cons_zero, List.setIfInBounds_toArray, List.set_cons_zero, List.set_cons_succ]
          refine wpAnyH_ready (rs := [5]) (by kernel_rfl) (by simp) ?_
          refine AllReadyH.cons rfl (fun K hK => ?_) AllReadyH.nil
          have hcc := HC1.out _ Bw4.out
          go_simp
          clear hcc
          refine hK.out _ _ hHeld (fun hHeld => ?_)
          try simp only [Act.put, List.getElem_toArray, List.getElem_cons_succ, List.getElem_cons_zero, List.setIfInBounds_toArray, List.set_cons_zero, List.set_cons_succ]
          refine wpAnyH_ready (rs := [6]) (by kernel_rfl) (by simp) ?_
          refine AllReadyH.cons rfl (fun K hK => ?_) AllReadyH.nil
          rw [if_pos (show Region.wanted _ _ = true by kernel_rfl)]
          refine wp_appendC (.tmp 23) (.tmp 27) 49 rfl N0 97 (.agg #[.int .i64 0, .string ⟨#[]⟩]) 2 24 Try.underlying49 waitinfo rfl (by omega) (.slice (some ⟨g0, 0, none⟩) 0 0) 0 (tcells []) rfl Ew4.out Ac CK.length cc (tcells CK) rfl (tcells_length _) (HCM.out _ Bw4.out) (tcell_oneCell _) (by simp only [maxLen]; omega) (by omega) (by have := HN0.out; have := Bw4.out.size; omega) ?_
          intro v1 w6 hown hgrow _ _
          rw [show tcells [] ++ tcells CK = tcells CK from rfl] at hown
          try rw [Nat.zero_add] at hown
          have Bw6 := Lib.hid (Bw4.out.grown hgrow (by have := HN0.out; have := Bw4.out.size; omega) (own_base Ew4.out))
          have Ow6 := Lib.hid hown
          have Xw6 := Lib.hid (Xw4.out.turn (grown_turn hgrow) (by simpa [Value.ownBlock] using HNE.out))
          clear hown hgrow
          refine hK.out _ _ (HS.out _ Bw6.out) (fun hHeld => ?_)
          try simp only [Act.put, List.getElem_toArray, List.getElem_cons_succ, List.getElem_cons_zero, List.setIfInBounds_toArray, List.set_cons_zero, List.set_cons_succ]
          refine wpAnyH_ready (rs := [15]) (by kernel_rfl) (by simp) ?_
          refine AllReadyH.cons rfl (fun K hK => ?_) AllReadyH.nil
          rw [if_pos (show Region.wanted _ _ = true by kernel_rfl)]
          refine wp_appendC (.tmp 28) (.tmp 36) 49 rfl N0 97 (.agg #[.int .i64 0, .string ⟨#[]⟩]) 2 24 Try.underlying49 waitinfo rfl (by omega) v1 CK.length (tcells CK) rfl Ow6.out (some ⟨gx, 0, none⟩) 1 1 (tcells [x]) rfl rfl Xw6.out.cells (tcell_oneCell _) (by simp only [maxLen]; omega) (by omega) (by have := HN0.out; have := Bw6.out.size; omega) ?_
          intro v2 w9 hown hgrow _ _
          have hb4 := Bw6.out.grown hgrow (by have := HN0.out; have := Bw6.out.size; omega) (own_base Ow6.out)
          rw [← tcells_append] at hown
          obtain ⟨A4, c4, rfl, hl4, hc4, hn4, hm4, ha4⟩ := own_readsT hown
          have HS9 := Lib.hid (HS.out _ hb4)
          rw [HN0.out] at hb4 ha4
          have B4 := Lib.hid hb4
          have C4 := Lib.hid hc4
          have A4L := Lib.hid ha4
          clear hown hgrow hb4 hc4 ha4
          refine hK.out _ _ HS9.out (fun hHeld => ?_)
          try simp only [Act.put, List.getElem_toArray, List.getElem_cons_succ, List.getElem_cons_zero, List.setIfInBounds_toArray, List.set_cons_zero, List.set_cons_succ]
          refine wpAnyH_take (i := 16) (v := .pointer (some ⟨r, 0, none⟩)) rfl (by kernel_rfl) (by kernel_rfl) (by kernel_rfl) (fun _ _ _ h => h) (Or.inl ⟨by kernel_rfl, fun w _ => by go_simp⟩) hHeld ?_
          try simp only [Act.put, List.getElem_toArray, List.getElem_cons_succ, List.getElem_cons_zero, List.setIfInBounds_toArray, List.set_cons_zero, List.set_cons_succ]
          refine wpAnyH_take (i := 17) (v := .pointer (some ⟨r, 1, none⟩)) rfl (by kernel_rfl) (by kernel_rfl) (by kernel_rfl) (fun _ _ _ h => h) (Or.inl ⟨by kernel_rfl, fun w _ => by go_simp⟩) hHeld ?_
          try simp only [Act.put, List.getElem_toArray, List.getElem_cons_succ, List.getElem_cons_zero, List.setIfInBounds_toArray, List.set_cons_zero, List.set_cons_succ]
          have RE := RD.out.keep B4.out
          obtain ⟨j1, j2⟩ := RE.head.get 1 _ rfl
          refine wpAnyH_ready (rs := [18]) (by kernel_rfl) (by simp) ?_
          refine AllReadyH.cons rfl (fun K hK => ?_) AllReadyH.nil
          go_simp
          clear j1 j2 RE
          have hok2 := flush_step_ok HOK.out HP.out KB.out KW.out (k + 1) (by omega)
          have hfin := RD.out.gone (D' := { P with blks := flushK D (k + 1) }) (C' := CK ++ [x]) B4.out C4.out A4L.out (by rw [hl4]; exact hn4) hm4 hok2 rfl (by show (flushK D (k + 1)).length = (flushK D k).length; rw [flushK_length, flushK_length]) rfl rfl (fun y hy => by
            rcases List.mem_append.1 hy with h | h
            · exact RD.out.cok y h
            · rw [List.mem_singleton.1 h, ← HX.out]; exact (HOK.out.waitAt k hlt).2) (by
            have hag := RD.out.agree
            have h2 := flush_agree (C := CK) HOK.out k hlt (fun a ha => hag a (by show a < (flushK D k).length; rw [flushK_length]; exact ha))
            rw [HX.out] at h2
            intro a ha
            exact h2 a (by have : a < (flushK D k).length := ha; rwa [flushK_length] at this)) (by rw [List.length_append, List.length_singleton]; omega)
          rw [hl4] at hfin
          have s2 := (hfin.head.get 2 _ rfl).1
          rw [show ({ P with blks := flushK D (k + 1) } : Dk).waits = D.waits from KW.out] at s2
          have R5 : Hid (∃ Ac cc, RefIn F (w9.setCell ⟨r, 1, none⟩ (.slice A4 (CK.length + 1) c4)) r Ac cc (some ⟨b, o, none⟩) wc { P with blks := flushK D (k + 1) } (C ++ D.waits.take (k + 1))) := Lib.hid ⟨_, _, by rw [take_snoc _ _ hlt, ← List.append_assoc, ← HCK.out, HX.out]; exact hfin⟩
          have T5 := Lib.hid ((TD.out.trans (Turn.of_below B4.out)).trans (Turn.set (F := fun b => b = r) (i := 1) w9 rfl (.slice A4 (CK.length + 1) c4)))
          have far : ∀ i, (w9.setCell ⟨r, 1, none⟩ (.slice A4 (CK.length + 1) c4)).cell? ⟨b, i, none⟩ = w9.cell? ⟨b, i, none⟩ := fun i => World.cell?_setCell_other w9 ⟨r, 1, none⟩ ⟨b, i, none⟩ _ (fun e => by injection e with e; exact HBR.out e.symm)
          refine hK.out _ _ ⟨s2, (far _).trans HS9.out.2.1, (far _).trans HS9.out.2.2⟩ (fun hHeld => ?_)
          try simp only [Act.put, List.getElem_toArray, List.getElem_cons_succ, List.getElem_cons_zero, List.setIfInBounds_toArray, List.set_cons_zero, List.set_cons_succ]
          clear hfin s2 hok2 far
          refine wpAnyH_done (by kernel_rfl) ?_ _
          clear hHeld
          go_wp2_with fail
          go_roundw
          case rel => exact ⟨k + 1, by omega, by go_num, R5.out, T5.out⟩
          case measure => simp [intOf]; omega
      · have hcc := HC1.out _ BW.out
        go_simp
        clear hcc
        refine hK.out _ _ hHeld (fun hHeld => ?_)
        try simp only [Act.put, List.getElem_toArray, List.getElem_cons_succ, List.getElem_cons_zero, List.setIfInBounds_toArray, List.set_cons_zero, List.set_cons_succ]
        refine wpAnyH_ready (rs := [1, 14]) (by kernel_rfl) (by simp) ?_
        refine AllReadyH.cons rfl (fun K hK => ?_) (AllReadyH.cons rfl (fun K hK => ?_) AllReadyH.nil)
        · go_simp
          have ba : Below W.heap.size W (W.alloc (.cells #[] 97)) := (Below.refl _ W).alloc (Nat.le_refl _) _
          have Ew4 := Lib.hid (own_empty_at W N0 (by have := HN0.out; have := BW.out.size; omega))
          have Bw4 := Lib.hid (BW.out.trans (ba.mono (by have := HN0.out; have := BW.out.size; omega)))
          obtain ⟨g0, hg0⟩ : ∃ y, y = W.heap.size := ⟨_, rfl⟩
          obtain ⟨w4, hw⟩ : ∃ V : World, V = W.alloc (.cells #[] 97) := ⟨_, rfl⟩
          rw [← hw] at Ew4 Bw4 ⊢
          rw [← hg0] at Ew4 ⊢
          clear hw ba hg0
          refine hK.out _ _ (HS.out _ Bw4.out) (fun hHeld => ?_)
          try simp only [Act.put, List.getElem_toArray, List.getElem_cons_succ, List.getElem_cons_zero, List.setIfInBounds_toArray, List.set_cons_zero, List.set_cons_succ]
          refine wpAnyH_ready (rs := [6, 14]) (by kernel_rfl) (by simp) ?_
          refine AllReadyH.cons rfl (fun K hK => ?_) (AllReadyH.cons rfl (fun K hK => ?_) AllReadyH.nil)
          · rw [if_pos (show Region.wanted _ _ = true by kernel_rfl)]
            refine wp_appendC (.tmp 23) (.tmp 27) 49 rfl N0 97 (.agg #[.int .i64 0, .string ⟨#[]⟩]) 2 24 Try.underlying49 waitinfo rfl (by omega) (.slice (some ⟨g0, 0, none⟩) 0 0) 0 (tcells []) rfl Ew4.out Ac CK.length cc (tcells CK) rfl (tcells_length _) (HCM.out _ Bw4.out) (tcell_oneCell _) (by simp only [maxLen]; omega) (by omega) (by have := HN0.out; have := Bw4.out.size; omega) ?_
            intro v1 w5 hown hgrow _ _
            rw [show tcells [] ++ tcells CK = tcells CK from rfl] at hown
            try rw [Nat.zero_add] at hown
            have Bw5 := Lib.hid (Bw4.out.grown hgrow (by have := HN0.out; have := Bw4.out.size; omega) (own_base Ew4.out))
            have Ow5 := Lib.hid hown
            clear hown hgrow
            refine hK.out _ _ (HS.out _ Bw5.out) (fun hHeld => ?_)
            try simp only [Act.put, List.getElem_toArray, List.getElem_cons_succ, List.getElem_cons_zero, List.setIfInBounds_toArray, List.set_cons_zero, List.set_cons_succ]
            refine wpAnyH_ready (rs := [14]) (by kernel_rfl) (by simp) ?_
            refine AllReadyH.cons rfl (fun K hK => ?_) AllReadyH.nil
            go_simp
            have ba : Below w5.heap.size w5 (w5.alloc (.cells #[.int .i64 (x.1 : Int), .string ⟨x.2.toArray⟩] 97)) := (Below.refl _ w5).alloc (Nat.le_refl _) _
            have Xw6 := Lib.hid (MemC.new w5 (tcells [x]) 97)
            have Bw6 := Lib.hid (Bw5.out.trans (ba.mono (by have := HN0.out; have := Bw5.out.size; omega)))
            have Ow6 := Lib.hid (Ow5.out.alloc (.cells #[.int .i64 (x.1 : Int), .string ⟨x.2.toArray⟩] 97))
            obtain ⟨gx, hgx⟩ : ∃ y, y = w5.heap.size := ⟨_, rfl⟩
            obtain ⟨w6, hw⟩ : ∃ V : World, V = w5.alloc (.cells #[.int .i64 (x.1 : Int), .string ⟨x.2.toArray⟩] 97) := ⟨_, rfl⟩
            rw [show (w5.alloc (.cells (tcells [x]).toArray 97)) = w6 by rw [hw]; rfl] at Xw6
            rw [← hw] at Bw6 Ow6 ⊢
            rw [← hgx] at Xw6 ⊢
            clear hw ba hgx
            refine hK.out _ _ (HS.out _ Bw6.out) (fun hHeld => ?_)
            try simp only [Act.put, List.getElem_toArray, List.getElem_cons_succ, List.getElem_cons_zero, List.setIfInBounds_toArray, List.set_cons_zero, List.set_cons_succ]
            refine wpAnyH_ready (rs := [15]) (by kernel_rfl) (by simp) ?_
            refine AllReadyH.cons rfl (fun K hK => ?_) AllReadyH.nil
            rw [if_pos (show Region.wanted _ _ = true by kernel_rfl)]
            refine wp_appendC (.tmp 28) (.tmp 36) 49 rfl N0 97 (.agg #[.int .i64 0, .string ⟨#[]⟩]) 2 24 Try.underlying49 waitinfo rfl (by omega) v1 CK.length (tcells CK) rfl Ow6.out (some ⟨gx, 0, none⟩) 1 1 (tcells [x]) rfl rfl Xw6.out.cells (tcell_oneCell _) (by simp only [maxLen]; omega) (by omega) (by have := HN0.out; have := Bw6.out.size; omega) ?_
            intro v2 w9 hown hgrow _ _
            have hb4 := Bw6.out.grown hgrow (by have := HN0.out; have := Bw6.out.size; omega) (own_base Ow6.out)
            rw [← tcells_append] at hown
            obtain ⟨A4, c4, rfl, hl4, hc4, hn4, hm4, ha4⟩ := own_readsT hown
            have HS9 := Lib.hid (HS.out _ hb4)
            rw [HN0.out] at hb4 ha4
            have B4 := Lib.hid hb4
            have C4 := Lib.hid hc4
            have A4L := Lib.hid ha4
            clear hown hgrow hb4 hc4 ha4
            refine hK.out _ _ HS9.out (fun hHeld => ?_)
            try simp only [Act.put, List.getElem_toArray, List.getElem_cons_succ, List.getElem_cons_zero, List.setIfInBounds_toArray, List.set_cons_zero, List.set_cons_succ]
            refine wpAnyH_take (i := 16) (v := .pointer (some ⟨r, 0, none⟩)) rfl (by kernel_rfl) (by kernel_rfl) (by kernel_rfl) (fun _ _ _ h => h) (Or.inl ⟨by kernel_rfl, fun w _ => by go_simp⟩) hHeld ?_
            try simp only [Act.put, List.getElem_toArray, List.getElem_cons_succ, List.getElem_cons_zero, List.setIfInBounds_toArray, List.set_cons_zero, List.set_cons_succ]
            refine wpAnyH_take (i := 17) (v := .pointer (some ⟨r, 1, none⟩)) rfl (by kernel_rfl) (by kernel_rfl) (by kernel_rfl) (fun _ _ _ h => h) (Or.inl ⟨by kernel_rfl, fun w _ => by go_simp⟩) hHeld ?_
            try simp only [Act.put, List.getElem_toArray, List.getElem_cons_succ, List.getElem_cons_zero, List.setIfInBounds_toArray, List.set_cons_zero, List.set_cons_succ]
            have RE := RD.out.keep B4.out
            obtain ⟨j1, j2⟩ := RE.head.get 1 _ rfl
            refine wpAnyH_ready (rs := [18]) (by kernel_rfl) (by simp) ?_
            refine AllReadyH.cons rfl (fun K hK => ?_) AllReadyH.nil
            go_simp
            clear j1 j2 RE
            have hok2 := flush_step_ok HOK.out HP.out KB.out KW.out (k + 1) (by omega)
            have hfin := RD.out.gone (D' := { P with blks := flushK D (k + 1) }) (C' := CK ++ [x]) B4.out C4.out A4L.out (by rw [hl4]; exact hn4) hm4 hok2 rfl (by show (flushK D (k + 1)).length = (flushK D k).length; rw [flushK_length, flushK_length]) rfl rfl (fun y hy => by
              rcases List.mem_append.1 hy with h | h
              · exact RD.out.cok y h
              · rw [List.mem_singleton.1 h, ← HX.out]; exact (HOK.out.waitAt k hlt).2) (by
              have hag := RD.out.agree
              have h2 := flush_agree (C := CK) HOK.out k hlt (fun a ha => hag a (by show a < (flushK D k).length; rw [flushK_length]; exact ha))
              rw [HX.out] at h2
              intro a ha
              exact h2 a (by have : a < (flushK D k).length := ha; rwa [flushK_length] at this)) (by rw [List.length_append, List.length_singleton]; omega)
            rw [hl4] at hfin
            have s2 := (hfin.head.get 2 _ rfl).1
            rw [show ({ P with blks := flushK D (k + 1) } : Dk).waits = D.waits from KW.out] at s2
            have R5 : Hid (∃ Ac cc, RefIn F (w9.setCell ⟨r, 1, none⟩ (.slice A4 (CK.length + 1) c4)) r Ac cc (some ⟨b, o, none⟩) wc { P with blks := flushK D (k + 1) } (C ++ D.waits.take (k + 1))) := Lib.hid ⟨_, _, by rw [take_snoc _ _ hlt, ← List.append_assoc, ← HCK.out, HX.out]; exact hfin⟩
            have T5 := Lib.hid ((TD.out.trans (Turn.of_below B4.out)).trans (Turn.set (F := fun b => b = r) (i := 1) w9 rfl (.slice A4 (CK.length + 1) c4)))
            have far : ∀ i, (w9.setCell ⟨r, 1, none⟩ (.slice A4 (CK.length + 1) c4)).cell? ⟨b, i, none⟩ = w9.cell? ⟨b, i, none⟩ := fun i => World.cell?_setCell_other w9 ⟨r, 1, none⟩ ⟨b, i, none⟩ _ (fun e => by injection e with e; exact HBR.out e.symm)
            refine hK.out _ _ ⟨s2, (far _).trans HS9.out.2.1, (far _).trans HS9.out.2.2⟩ (fun hHeld => ?_)
            try simp only [Act.put, List.getElem_toArray, List.getElem_cons_succ, List.getElem_cons_zero, List.setIfInBounds_toArray, List.set_cons_zero, List.set_cons_succ]
            clear hfin s2 hok2 far
            refine wpAnyH_done (by kernel_rfl) ?_ _
            clear hHeld
            go_wp2_with fail
            go_roundw
            case rel => exact ⟨k + 1, by omega, by go_num, R5.out, T5.out⟩
            case measure => simp [intOf]; omega
          · go_simp
            have HLT := Lib.hid (show g0 < w4.heap.size from (Ew4.out.lt _ rfl).2)
            have ba : Below w4.heap.size w4 (w4.alloc (.cells #[.int .i64 (x.1 : Int), .string ⟨x.2.toArray⟩] 97)) := (Below.refl _ w4).alloc (Nat.le_refl _) _
            have Xw5 := Lib.hid (MemC.new w4 (tcells [x]) 97)
            have Bw5 := Lib.hid (Bw4.out.trans (ba.mono (by have := HN0.out; have := Bw4.out.size; omega)))
            have Ew5 := Lib.hid (Ew4.out.alloc (.cells #[.int .i64 (x.1 : Int), .string ⟨x.2.toArray⟩] 97))
            obtain ⟨gx, hgx⟩ : ∃ y, y = w4.heap.size := ⟨_, rfl⟩
            obtain ⟨w5, hw⟩ : ∃ V : World, V = w4.alloc (.cells #[.int .i64 (x.1 : Int), .string ⟨x.2.toArray⟩] 97) := ⟨_, rfl⟩
            rw [show (w4.alloc (.cells (tcells [x]).toArray 97)) = w5 by rw [hw]; rfl] at Xw5
            rw [← hw] at Bw5 Ew5 ⊢
            rw [← hgx] at Xw5 ⊢
            have HNE := Lib.hid (show gx ≠ g0 by have := HLT.out; omega)
            clear hw ba hgx
            refine hK.out _ _ (HS.out _ Bw5.out) (fun hHeld => ?_)
            try simp only [Act.put, List.getElem_toArray, List.getElem_cons_succ, List.getElem_cons_zero, List.setIfInBounds_toArray, List.set_cons_zero, List.set_cons_succ]
            refine wpAnyH_ready (rs := [6]) (by kernel_rfl) (by simp) ?_
            refine AllReadyH.cons rfl (fun K hK => ?_) AllReadyH.nil
            rw [if_pos (show Region.wanted _ _ = true by kernel_rfl)]
            refine wp_appendC (.tmp 23) (.tmp 27) 49 rfl N0 97 (.agg #[.int .i64 0, .string ⟨#[]⟩]) 2 24 Try.underlying49 waitinfo rfl (by omega) (.slice (some ⟨g0, 0, none⟩) 0 0) 0 (tcells []) rfl Ew5.out Ac CK.length cc (tcells CK) rfl (tcells_length _) (HCM.out _ Bw5.out) (tcell_oneCell _) (by simp only [maxLen]; omega) (by omega) (by have := HN0.out; have := Bw5.out.size; omega) ?_
            intro v1 w6 hown hgrow _ _
            rw [show tcells [] ++ tcells CK = tcells CK from rfl] at hown
            try rw [Nat.zero_add] at hown
            have Bw6 := Lib.hid (Bw5.out.grown hgrow (by have := HN0.out; have := Bw5.out.size; omega) (own_base Ew5.out))
            have Ow6 := Lib.hid hown
            have Xw6 := Lib.hid (Xw5.out.turn (grown_turn hgrow) (by simpa [Value.ownBlock] using HNE.out))
            clear hown hgrow
            refine hK.out _ _ (HS.out _ Bw6.out) (fun hHeld => ?_)
            try simp only [Act.put, List.getElem_toArray, List.getElem_cons_succ, List.getElem_cons_zero, List.setIfInBounds_toArray, List.set_cons_zero, List.set_cons_succ]
            refine wpAnyH_ready (rs := [15]) (by kernel_rfl) (by simp) ?_
            refine AllReadyH.cons rfl (fun K hK => ?_) AllReadyH.nil
            rw [if_pos (show Region.wanted _ _ = true by kernel_rfl)]
            refine wp_appendC (.tmp 28) (.tmp 36) 49 rfl N0 97 (.agg #[.int .i64 0, .string ⟨#[]⟩]) 2 24 Try.underlying49 waitinfo rfl (by omega) v1 CK.length (tcells CK) rfl Ow6.out (some ⟨gx, 0, none⟩) 1 1 (tcells [x]) rfl rfl Xw6.out.cells (tcell_oneCell _) (by simp only [maxLen]; omega) (by omega) (by have := HN0.out; have := Bw6.out.size; omega) ?_
            intro v2 w9 hown hgrow _ _
            have hb4 := Bw6.out.grown hgrow (by have := HN0.out; have := Bw6.out.size; omega) (own_base Ow6.out)
            rw [← tcells_append] at hown
            obtain ⟨A4, c4, rfl, hl4, hc4, hn4, hm4, ha4⟩ := own_readsT hown
            have HS9 := Lib.hid (HS.out _ hb4)
            rw [HN0.out] at hb4 ha4
            have B4 := Lib.hid hb4
            have C4 := Lib.hid hc4
            have A4L := Lib.hid ha4
            clear hown hgrow hb4 hc4 ha4
            refine hK.out _ _ HS9.out (fun hHeld => ?_)
            try simp only [Act.put, List.getElem_toArray, List.getElem_cons_succ, List.getElem_cons_zero, List.setIfInBounds_toArray, List.set_cons_zero, List.set_cons_succ]
            refine wpAnyH_take (i := 16) (v := .pointer (some ⟨r, 0, none⟩)) rfl (by kernel_rfl) (by kernel_rfl) (by kernel_rfl) (fun _ _ _ h => h) (Or.inl ⟨by kernel_rfl, fun w _ => by go_simp⟩) hHeld ?_
            try simp only [Act.put, List.getElem_toArray, List.getElem_cons_succ, List.getElem_cons_zero, List.setIfInBounds_toArray, List.set_cons_zero, List.set_cons_succ]
            refine wpAnyH_take (i := 17) (v := .pointer (some ⟨r, 1, none⟩)) rfl (by kernel_rfl) (by kernel_rfl) (by kernel_rfl) (fun _ _ _ h => h) (Or.inl ⟨by kernel_rfl, fun w _ => by go_simp⟩) hHeld ?_
            try simp only [Act.put, List.getElem_toArray, List.getElem_cons_succ, List.getElem_cons_zero, List.setIfInBounds_toArray, List.set_cons_zero, List.set_cons_succ]
            have RE := RD.out.keep B4.out
            obtain ⟨j1, j2⟩ := RE.head.get 1 _ rfl
            refine wpAnyH_ready (rs := [18]) (by kernel_rfl) (by simp) ?_
            refine AllReadyH.cons rfl (fun K hK => ?_) AllReadyH.nil
            go_simp
            clear j1 j2 RE
            have hok2 := flush_step_ok HOK.out HP.out KB.out KW.out (k + 1) (by omega)
            have hfin := RD.out.gone (D' := { P with blks := flushK D (k + 1) }) (C' := CK ++ [x]) B4.out C4.out A4L.out (by rw [hl4]; exact hn4) hm4 hok2 rfl (by show (flushK D (k + 1)).length = (flushK D k).length; rw [flushK_length, flushK_length]) rfl rfl (fun y hy => by
              rcases List.mem_append.1 hy with h | h
              · exact RD.out.cok y h
              · rw [List.mem_singleton.1 h, ← HX.out]; exact (HOK.out.waitAt k hlt).2) (by
              have hag := RD.out.agree
              have h2 := flush_agree (C := CK) HOK.out k hlt (fun a ha => hag a (by show a < (flushK D k).length; rw [flushK_length]; exact ha))
              rw [HX.out] at h2
              intro a ha
              exact h2 a (by have : a < (flushK D k).length := ha; rwa [flushK_length] at this)) (by rw [List.length_append, List.length_singleton]; omega)
            rw [hl4] at hfin
            have s2 := (hfin.head.get 2 _ rfl).1
            rw [show ({ P with blks := flushK D (k + 1) } : Dk).waits = D.waits from KW.out] at s2
            have R5 : Hid (∃ Ac cc, RefIn F (w9.setCell ⟨r, 1, none⟩ (.slice A4 (CK.length + 1) c4)) r Ac cc (some ⟨b, o, none⟩) wc { P with blks := flushK D (k + 1) } (C ++ D.waits.take (k + 1))) := Lib.hid ⟨_, _, by rw [take_snoc _ _ hlt, ← List.append_assoc, ← HCK.out, HX.out]; exact hfin⟩
            have T5 := Lib.hid ((TD.out.trans (Turn.of_below B4.out)).trans (Turn.set (F := fun b => b = r) (i := 1) w9 rfl (.slice A4 (CK.length + 1) c4)))
            have far : ∀ i, (w9.setCell ⟨r, 1, none⟩ (.slice A4 (CK.length + 1) c4)).cell? ⟨b, i, none⟩ = w9.cell? ⟨b, i, none⟩ := fun i => World.cell?_setCell_other w9 ⟨r, 1, none⟩ ⟨b, i, none⟩ _ (fun e => by injection e with e; exact HBR.out e.symm)
            refine hK.out _ _ ⟨s2, (far _).trans HS9.out.2.1, (far _).trans HS9.out.2.2⟩ (fun hHeld => ?_)
            try simp only [Act.put, List.getElem_toArray, List.getElem_cons_succ, List.getElem_cons_zero, List.setIfInBounds_toArray, List.set_cons_zero, List.set_cons_succ]
            clear hfin s2 hok2 far
            refine wpAnyH_done (by kernel_rfl) ?_ _
            clear hHeld
            go_wp2_with fail
            go_roundw
            case rel => exact ⟨k + 1, by omega, by go_num, R5.out, T5.out⟩
            case measure => simp [intOf]; omega
        · go_simp
          have ba : Below W.heap.size W (W.alloc (.cells #[.int .i64 (x.1 : Int), .string ⟨x.2.toArray⟩] 97)) := (Below.refl _ W).alloc (Nat.le_refl _) _
          have Xw4 := Lib.hid (MemC.new W (tcells [x]) 97)
          have Bw4 := Lib.hid (BW.out.trans (ba.mono (by have := HN0.out; have := BW.out.size; omega)))
          obtain ⟨gx, hgx⟩ : ∃ y, y = W.heap.size := ⟨_, rfl⟩
          obtain ⟨w4, hw⟩ : ∃ V : World, V = W.alloc (.cells #[.int .i64 (x.1 : Int), .string ⟨x.2.toArray⟩] 97) := ⟨_, rfl⟩
          rw [show (W.alloc (.cells (tcells [x]).toArray 97)) = w4 by rw [hw]; rfl] at Xw4
          rw [← hw] at Bw4 ⊢
          rw [← hgx] at Xw4 ⊢
          clear hw ba hgx
          refine hK.out _ _ (HS.out _ Bw4.out) (fun hHeld => ?_)
          try simp only [Act.put, List.getElem_toArray, List.getElem_cons_succ, List.getElem_cons_zero, List.setIfInBounds_toArray, List.set_cons_zero, List.set_cons_succ]
          refine wpAnyH_ready (rs := [1]) (by kernel_rfl) (by simp) ?_
          refine AllReadyH.cons rfl (fun K hK => ?_) AllReadyH.nil
          go_simp
          have HLT := Lib.hid (show gx < w4.heap.size from Xw4.out.at_.lt)
          have ba : Below w4.heap.size w4 (w4.alloc (.cells #[] 97)) := (Below.refl _ w4).alloc (Nat.le_refl _) _
          have Ew5 := Lib.hid (own_empty_at w4 N0 (by have := HN0.out; have := Bw4.out.size; omega))
          have Bw5 := Lib.hid (Bw4.out.trans (ba.mono (by have := HN0.out; have := Bw4.out.size; omega)))
          have Xw5 := Lib.hid (Xw4.out.keep ba)
          obtain ⟨g0, hg0⟩ : ∃ y, y = w4.heap.size := ⟨_, rfl⟩
          obtain ⟨w5, hw⟩ : ∃ V : World, V = w4.alloc (.cells #[] 97) := ⟨_, rfl⟩
          rw [← hw] at Ew5 Bw5 Xw5 ⊢
          rw [← hg0] at Ew5 ⊢
          have HNE := Lib.hid (show gx ≠ g0 by have := HLT.out; omega)
          clear hw ba hg0
          refine hK.out _ _ (HS.out _ Bw5.out) (fun hHeld => ?_)
          try simp only [Act.put, List.getElem_toArray, List.getElem_cons_succ, List.getElem_cons_zero, List.setIfInBounds_toArray, List.set_cons_zero, List.set_cons_succ]
          refine wpAnyH_ready (rs := [6]) (by kernel_rfl) (by simp) ?_
          refine AllReadyH.cons rfl (fun K hK => ?_) AllReadyH.nil
          rw [if_pos (show Region.wanted _ _ = true by kernel_rfl)]
          refine wp_appendC (.tmp 23) (.tmp 27) 49 rfl N0 97 (.agg #[.int .i64 0, .string ⟨#[]⟩]) 2 24 Try.underlying49 waitinfo rfl (by omega) (.slice (some ⟨g0, 0, none⟩) 0 0) 0 (tcells []) rfl Ew5.out Ac CK.length cc (tcells CK) rfl (tcells_length _) (HCM.out _ Bw5.out) (tcell_oneCell _) (by simp only [maxLen]; omega) (by omega) (by have := HN0.out; have := Bw5.out.size; omega) ?_
          intro v1 w6 hown hgrow _ _
          rw [show tcells [] ++ tcells CK = tcells CK from rfl] at hown
          try rw [Nat.zero_add] at hown
          have Bw6 := Lib.hid (Bw5.out.grown hgrow (by have := HN0.out; have := Bw5.out.size; omega) (own_base Ew5.out))
          have Ow6 := Lib.hid hown
          have Xw6 := Lib.hid (Xw5.out.turn (grown_turn hgrow) (by simpa [Value.ownBlock] using HNE.out))
          clear hown hgrow
          refine hK.out _ _ (HS.out _ Bw6.out) (fun hHeld => ?_)
          try simp only [Act.put, List.getElem_toArray, List.getElem_cons_succ, List.getElem_cons_zero, List.setIfInBounds_toArray, List.set_cons_zero, List.set_cons_succ]
          refine wpAnyH_ready (rs := [15]) (by kernel_rfl) (by simp) ?_
          refine AllReadyH.cons rfl (fun K hK => ?_) AllReadyH.nil
          rw [if_pos (show Region.wanted _ _ = true by kernel_rfl)]
          refine wp_appendC (.tmp 28) (.tmp 36) 49 rfl N0 97 (.agg #[.int .i64 0, .string ⟨#[]⟩]) 2 24 Try.underlying49 waitinfo rfl (by omega) v1 CK.length (tcells CK) rfl Ow6.out (some ⟨gx, 0, none⟩) 1 1 (tcells [x]) rfl rfl Xw6.out.cells (tcell_oneCell _) (by simp only [maxLen]; omega) (by omega) (by have := HN0.out; have := Bw6.out.size; omega) ?_
          intro v2 w9 hown hgrow _ _
          have hb4 := Bw6.out.grown hgrow (by have := HN0.out; have := Bw6.out.size; omega) (own_base Ow6.out)
          rw [← tcells_append] at hown
          obtain ⟨A4, c4, rfl, hl4, hc4, hn4, hm4, ha4⟩ := own_readsT hown
          have HS9 := Lib.hid (HS.out _ hb4)
          rw [HN0.out] at hb4 ha4
          have B4 := Lib.hid hb4
          have C4 := Lib.hid hc4
          have A4L := Lib.hid ha4
          clear hown hgrow hb4 hc4 ha4
          refine hK.out _ _ HS9.out (fun hHeld => ?_)
          try simp only [Act.put, List.getElem_toArray, List.getElem_cons_succ, List.getElem_cons_zero, List.setIfInBounds_toArray, List.set_cons_zero, List.set_cons_succ]
          refine wpAnyH_take (i := 16) (v := .pointer (some ⟨r, 0, none⟩)) rfl (by kernel_rfl) (by kernel_rfl) (by kernel_rfl) (fun _ _ _ h => h) (Or.inl ⟨by kernel_rfl, fun w _ => by go_simp⟩) hHeld ?_
          try simp only [Act.put, List.getElem_toArray, List.getElem_cons_succ, List.getElem_cons_zero, List.setIfInBounds_toArray, List.set_cons_zero, List.set_cons_succ]
          refine wpAnyH_take (i := 17) (v := .pointer (some ⟨r, 1, none⟩)) rfl (by kernel_rfl) (by kernel_rfl) (by kernel_rfl) (fun _ _ _ h => h) (Or.inl ⟨by kernel_rfl, fun w _ => by go_simp⟩) hHeld ?_
          try simp only [Act.put, List.getElem_toArray, List.getElem_cons_succ, List.getElem_cons_zero, List.setIfInBounds_toArray, List.set_cons_zero, List.set_cons_succ]
          have RE := RD.out.keep B4.out
          obtain ⟨j1, j2⟩ := RE.head.get 1 _ rfl
          refine wpAnyH_ready (rs := [18]) (by kernel_rfl) (by simp) ?_
          refine AllReadyH.cons rfl (fun K hK => ?_) AllReadyH.nil
          go_simp
          clear j1 j2 RE
          have hok2 := flush_step_ok HOK.out HP.out KB.out KW.out (k + 1) (by omega)
          have hfin := RD.out.gone (D' := { P with blks := flushK D (k + 1) }) (C' := CK ++ [x]) B4.out C4.out A4L.out (by rw [hl4]; exact hn4) hm4 hok2 rfl (by show (flushK D (k + 1)).length = (flushK D k).length; rw [flushK_length, flushK_length]) rfl rfl (fun y hy => by
            rcases List.mem_append.1 hy with h | h
            · exact RD.out.cok y h
            · rw [List.mem_singleton.1 h, ← HX.out]; exact (HOK.out.waitAt k hlt).2) (by
            have hag := RD.out.agree
            have h2 := flush_agree (C := CK) HOK.out k hlt (fun a ha => hag a (by show a < (flushK D k).length; rw [flushK_length]; exact ha))
            rw [HX.out] at h2
            intro a ha
            exact h2 a (by have : a < (flushK D k).length := ha; rwa [flushK_length] at this)) (by rw [List.length_append, List.length_singleton]; omega)
          rw [hl4] at hfin
          have s2 := (hfin.head.get 2 _ rfl).1
          rw [show ({ P with blks := flushK D (k + 1) } : Dk).waits = D.waits from KW.out] at s2
          have R5 : Hid (∃ Ac cc, RefIn F (w9.setCell ⟨r, 1, none⟩ (.slice A4 (CK.length + 1) c4)) r Ac cc (some ⟨b, o, none⟩) wc { P with blks := flushK D (k + 1) } (C ++ D.waits.take (k + 1))) := Lib.hid ⟨_, _, by rw [take_snoc _ _ hlt, ← List.append_assoc, ← HCK.out, HX.out]; exact hfin⟩
          have T5 := Lib.hid ((TD.out.trans (Turn.of_below B4.out)).trans (Turn.set (F := fun b => b = r) (i := 1) w9 rfl (.slice A4 (CK.length + 1) c4)))
          have far : ∀ i, (w9.setCell ⟨r, 1, none⟩ (.slice A4 (CK.length + 1) c4)).cell? ⟨b, i, none⟩ = w9.cell? ⟨b, i, none⟩ := fun i => World.cell?_setCell_other w9 ⟨r, 1, none⟩ ⟨b, i, none⟩ _ (fun e => by injection e with e; exact HBR.out e.symm)
          refine hK.out _ _ ⟨s2, (far _).trans HS9.out.2.1, (far _).trans HS9.out.2.2⟩ (fun hHeld => ?_)
          try simp only [Act.put, List.getElem_toArray, List.getElem_cons_succ, List.getElem_cons_zero, List.setIfInBounds_toArray, List.set_cons_zero, List.set_cons_succ]
          clear hfin s2 hok2 far
          refine wpAnyH_done (by kernel_rfl) ?_ _
          clear hHeld
          go_wp2_with fail
          go_roundw
          case rel => exact ⟨k + 1, by omega, by go_num, R5.out, T5.out⟩
          case measure => simp [intOf]; omega
      · go_simp
        have ba : Below W.heap.size W (W.alloc (.cells #[.int .i64 (x.1 : Int), .string ⟨x.2.toArray⟩] 97)) := (Below.refl _ W).alloc (Nat.le_refl _) _
        have Xw3 := Lib.hid (MemC.new W (tcells [x]) 97)
        have Bw3 := Lib.hid (BW.out.trans (ba.mono (by have := HN0.out; have := BW.out.size; omega)))
        obtain ⟨gx, hgx⟩ : ∃ y, y = W.heap.size := ⟨_, rfl⟩
        obtain ⟨w3, hw⟩ : ∃ V : World, V = W.alloc (.cells #[.int .i64 (x.1 : Int), .string ⟨x.2.toArray⟩] 97) := ⟨_, rfl⟩
        rw [show (W.alloc (.cells (tcells [x]).toArray 97)) = w3 by rw [hw]; rfl] at Xw3
        rw [← hw] at Bw3 ⊢
        rw [← hgx] at Xw3 ⊢
        clear hw ba hgx
        refine hK.out _ _ (HS.out _ Bw3.out) (fun hHeld => ?_)
        try simp only [Act.put, List.getElem_toArray, List.getElem_cons_succ, List.getElem_cons_zero, List.setIfInBounds_toArray, List.set_cons_zero, List.set_cons_succ]
        refine wpAnyH_ready (rs := [1, 5]) (by kernel_rfl) (by simp) ?_
        refine AllReadyH.cons rfl (fun K hK => ?_) (AllReadyH.cons rfl (fun K hK => ?_) AllReadyH.nil)
        · go_simp
          have HLT := Lib.hid (show gx < w3.heap.size from Xw3.out.at_.lt)
          have ba : Below w3.heap.size w3 (w3.alloc (.cells #[] 97)) := (Below.refl _ w3).alloc (Nat.le_refl _) _
          have Ew4 := Lib.hid (own_empty_at w3 N0 (by have := HN0.out; have := Bw3.out.size; omega))
          have Bw4 := Lib.hid (Bw3.out.trans (ba.mono (by have := HN0.out; have := Bw3.out.size; omega)))
          have Xw4 := Lib.hid (Xw3.out.keep ba)
          obtain ⟨g0, hg0⟩ : ∃ y, y = w3.heap.size := ⟨_, rfl⟩
          obtain ⟨w4, hw⟩ : ∃ V : World, V = w3.alloc (.cells #[] 97) := ⟨_, rfl⟩
          rw [← hw] at Ew4 Bw4 Xw4 ⊢
          rw [← hg0] at Ew4 ⊢
          have HNE := Lib.hid (show gx ≠ g0 by have := HLT.out; omega)
          clear hw ba hg0
          refine hK.out _ _ (HS.out _ Bw4.out) (fun hHeld => ?_)
          try simp only [Act.put, List.getElem_toArray, List.getElem_cons_succ, List.getElem_cons_zero, List.setIfInBounds_toArray, List.set_cons_zero, List.set_cons_succ]
          refine wpAnyH_ready (rs := [5]) (by kernel_rfl) (by simp) ?_
          refine AllReadyH.cons rfl (fun K hK => ?_) AllReadyH.nil
          have hcc := HC1.out _ Bw4.out
          go_simp
          clear hcc
          refine hK.out _ _ hHeld (fun hHeld => ?_)
          try simp only [Act.put, List.getElem_toArray, List.getElem_cons_succ, List.getElem_cons_zero, List.setIfInBounds_toArray, List.set_cons_zero, List.set_cons_succ]
          refine wpAnyH_ready (rs := [6]) (by kernel_rfl) (by simp) ?_
          refine AllReadyH.cons rfl (fun K hK => ?_) AllReadyH.nil
          rw [if_pos (show Region.wanted _ _ = true by kernel_rfl)]
          refine wp_appendC (.tmp 23) (.tmp 27) 49 rfl N0 97 (.agg #[.int .i64 0, .string ⟨#[]⟩]) 2 24 Try.underlying49 waitinfo rfl (by omega) (.slice (some ⟨g0, 0, none⟩) 0 0) 0 (tcells []) rfl Ew4.out Ac CK.length cc (tcells CK) rfl (tcells_length _) (HCM.out _ Bw4.out) (tcell_oneCell _) (by simp only [maxLen]; omega) (by omega) (by have := HN0.out; have := Bw4.out.size; omega) ?_
          intro v1 w6 hown hgrow _ _
          rw [show tcells [] ++ tcells CK = tcells CK from rfl] at hown
          try rw [Nat.zero_add] at hown
          have Bw6 := Lib.hid (Bw4.out.grown hgrow (by have := HN0.out; have := Bw4.out.size; omega) (own_base Ew4.out))
          have Ow6 := Lib.hid hown
          have Xw6 := Lib.hid (Xw4.out.turn (grown_turn hgrow) (by simpa [Value.ownBlock] using HNE.out))
          clear hown hgrow
          refine hK.out _ _ (HS.out _ Bw6.out) (fun hHeld => ?_)
          try simp only [Act.put, List.getElem_toArray, List.getElem_cons_succ, List.getElem_cons_zero, List.setIfInBounds_toArray, List.set_cons_zero, List.set_cons_succ]
          refine wpAnyH_ready (rs := [15]) (by kernel_rfl) (by simp) ?_
          refine AllReadyH.cons rfl (fun K hK => ?_) AllReadyH.nil
          rw [if_pos (show Region.wanted _ _ = true by kernel_rfl)]
          refine wp_appendC (.tmp 28) (.tmp 36) 49 rfl N0 97 (.agg #[.int .i64 0, .string ⟨#[]⟩]) 2 24 Try.underlying49 waitinfo rfl (by omega) v1 CK.length (tcells CK) rfl Ow6.out (some ⟨gx, 0, none⟩) 1 1 (tcells [x]) rfl rfl Xw6.out.cells (tcell_oneCell _) (by simp only [maxLen]; omega) (by omega) (by have := HN0.out; have := Bw6.out.size; omega) ?_
          intro v2 w9 hown hgrow _ _
          have hb4 := Bw6.out.grown hgrow (by have := HN0.out; have := Bw6.out.size; omega) (own_base Ow6.out)
          rw [← tcells_append] at hown
          obtain ⟨A4, c4, rfl, hl4, hc4, hn4, hm4, ha4⟩ := own_readsT hown
          have HS9 := Lib.hid (HS.out _ hb4)
          rw [HN0.out] at hb4 ha4
          have B4 := Lib.hid hb4
          have C4 := Lib.hid hc4
          have A4L := Lib.hid ha4
          clear hown hgrow hb4 hc4 ha4
          refine hK.out _ _ HS9.out (fun hHeld => ?_)
          try simp only [Act.put, List.getElem_toArray, List.getElem_cons_succ, List.getElem_cons_zero, List.setIfInBounds_toArray, List.set_cons_zero, List.set_cons_succ]
          refine wpAnyH_take (i := 16) (v := .pointer (some ⟨r, 0, none⟩)) rfl (by kernel_rfl) (by kernel_rfl) (by kernel_rfl) (fun _ _ _ h => h) (Or.inl ⟨by kernel_rfl, fun w _ => by go_simp⟩) hHeld ?_
          try simp only [Act.put, List.getElem_toArray, List.getElem_cons_succ, List.getElem_cons_zero, List.setIfInBounds_toArray, List.set_cons_zero, List.set_cons_succ]
          refine wpAnyH_take (i := 17) (v := .pointer (some ⟨r, 1, none⟩)) rfl (by kernel_rfl) (by kernel_rfl) (by kernel_rfl) (fun _ _ _ h => h) (Or.inl ⟨by kernel_rfl, fun w _ => by go_simp⟩) hHeld ?_
          try simp only [Act.put, List.getElem_toArray, List.getElem_cons_succ, List.getElem_cons_zero, List.setIfInBounds_toArray, List.set_cons_zero, List.set_cons_succ]
          have RE := RD.out.keep B4.out
          obtain ⟨j1, j2⟩ := RE.head.get 1 _ rfl
          refine wpAnyH_ready (rs := [18]) (by kernel_rfl) (by simp) ?_
          refine AllReadyH.cons rfl (fun K hK => ?_) AllReadyH.nil
          go_simp
          clear j1 j2 RE
          have hok2 := flush_step_ok HOK.out HP.out KB.out KW.out (k + 1) (by omega)
          have hfin := RD.out.gone (D' := { P with blks := flushK D (k + 1) }) (C' := CK ++ [x]) B4.out C4.out A4L.out (by rw [hl4]; exact hn4) hm4 hok2 rfl (by show (flushK D (k + 1)).length = (flushK D k).length; rw [flushK_length, flushK_length]) rfl rfl (fun y hy => by
            rcases List.mem_append.1 hy with h | h
            · exact RD.out.cok y h
            · rw [List.mem_singleton.1 h, ← HX.out]; exact (HOK.out.waitAt k hlt).2) (by
            have hag := RD.out.agree
            have h2 := flush_agree (C := CK) HOK.out k hlt (fun a ha => hag a (by show a < (flushK D k).length; rw [flushK_length]; exact ha))
            rw [HX.out] at h2
            intro a ha
            exact h2 a (by have : a < (flushK D k).length := ha; rwa [flushK_length] at this)) (by rw [List.length_append, List.length_singleton]; omega)
          rw [hl4] at hfin
          have s2 := (hfin.head.get 2 _ rfl).1
          rw [show ({ P with blks := flushK D (k + 1) } : Dk).waits = D.waits from KW.out] at s2
          have R5 : Hid (∃ Ac cc, RefIn F (w9.setCell ⟨r, 1, none⟩ (.slice A4 (CK.length + 1) c4)) r Ac cc (some ⟨b, o, none⟩) wc { P with blks := flushK D (k + 1) } (C ++ D.waits.take (k + 1))) := Lib.hid ⟨_, _, by rw [take_snoc _ _ hlt, ← List.append_assoc, ← HCK.out, HX.out]; exact hfin⟩
          have T5 := Lib.hid ((TD.out.trans (Turn.of_below B4.out)).trans (Turn.set (F := fun b => b = r) (i := 1) w9 rfl (.slice A4 (CK.length + 1) c4)))
          have far : ∀ i, (w9.setCell ⟨r, 1, none⟩ (.slice A4 (CK.length + 1) c4)).cell? ⟨b, i, none⟩ = w9.cell? ⟨b, i, none⟩ := fun i => World.cell?_setCell_other w9 ⟨r, 1, none⟩ ⟨b, i, none⟩ _ (fun e => by injection e with e; exact HBR.out e.symm)
          refine hK.out _ _ ⟨s2, (far _).trans HS9.out.2.1, (far _).trans HS9.out.2.2⟩ (fun hHeld => ?_)
          try simp only [Act.put, List.getElem_toArray, List.getElem_cons_succ, List.getElem_cons_zero, List.setIfInBounds_toArray, List.set_cons_zero, List.set_cons_succ]
          clear hfin s2 hok2 far
          refine wpAnyH_done (by kernel_rfl) ?_ _
          clear hHeld
          go_wp2_with fail
          go_roundw
          case rel => exact ⟨k + 1, by omega, by go_num, R5.out, T5.out⟩
          case measure => simp [intOf]; omega
        · have hcc := HC1.out _ Bw3.out
          go_simp
          clear hcc
          refine hK.out _ _ hHeld (fun hHeld => ?_)
          try simp only [Act.put, List.getElem_toArray, List.getElem_cons_succ, List.getElem_cons_zero, List.setIfInBounds_toArray, List.set_cons_zero, List.set_cons_succ]
          refine wpAnyH_ready (rs := [1]) (by kernel_rfl) (by simp) ?_
          refine AllReadyH.cons rfl (fun K hK => ?_) AllReadyH.nil
          go_simp
          have HLT := Lib.hid (show gx < w3.heap.size from Xw3.out.at_.lt)
          have ba : Below w3.heap.size w3 (w3.alloc (.cells #[] 97)) := (Below.refl _ w3).alloc (Nat.le_refl _) _
          have Ew5 := Lib.hid (own_empty_at w3 N0 (by have := HN0.out; have := Bw3.out.size; omega))
          have Bw5 := Lib.hid (Bw3.out.trans (ba.mono (by have := HN0.out; have := Bw3.out.size; omega)))
          have Xw5 := Lib.hid (Xw3.out.keep ba)
          obtain ⟨g0, hg0⟩ : ∃ y, y = w3.heap.size := ⟨_, rfl⟩
          obtain ⟨w5, hw⟩ : ∃ V : World, V = w3.alloc (.cells #[] 97) := ⟨_, rfl⟩
          rw [← hw] at Ew5 Bw5 Xw5 ⊢
          rw [← hg0] at Ew5 ⊢
          have HNE := Lib.hid (show gx ≠ g0 by have := HLT.out; omega)
          clear hw ba hg0
          refine hK.out _ _ (HS.out _ Bw5.out) (fun hHeld => ?_)
          try simp only [Act.put, List.getElem_toArray, List.getElem_cons_succ, List.getElem_cons_zero, List.setIfInBounds_toArray, List.set_cons_zero, List.set_cons_succ]
          refine wpAnyH_ready (rs := [6]) (by kernel_rfl) (by simp) ?_
          refine AllReadyH.cons rfl (fun K hK => ?_) AllReadyH.nil
          rw [if_pos (show Region.wanted _ _ = true by kernel_rfl)]
          refine wp_appendC (.tmp 23) (.tmp 27) 49 rfl N0 97 (.agg #[.int .i64 0, .string ⟨#[]⟩]) 2 24 Try.underlying49 waitinfo rfl (by omega) (.slice (some ⟨g0, 0, none⟩) 0 0) 0 (tcells []) rfl Ew5.out Ac CK.length cc (tcells CK) rfl (tcells_length _) (HCM.out _ Bw5.out) (tcell_oneCell _) (by simp only [maxLen]; omega) (by omega) (by have := HN0.out; have := Bw5.out.size; omega) ?_
          intro v1 w6 hown hgrow _ _
          rw [show tcells [] ++ tcells CK = tcells CK from rfl] at hown
          try rw [Nat.zero_add] at hown
          have Bw6 := Lib.hid (Bw5.out.grown hgrow (by have := HN0.out; have := Bw5.out.size; omega) (own_base Ew5.out))
          have Ow6 := Lib.hid hown
          have Xw6 := Lib.hid (Xw5.out.turn (grown_turn hgrow) (by simpa [Value.ownBlock] using HNE.out))
          clear hown hgrow
          refine hK.out _ _ (HS.out _ Bw6.out) (fun hHeld => ?_)
          try simp only [Act.put, List.getElem_toArray, List.getElem_cons_succ, List.getElem_cons_zero, List.setIfInBounds_toArray, List.set_cons_zero, List.set_cons_succ]
          refine wpAnyH_ready (rs := [15]) (by kernel_rfl) (by simp) ?_
          refine AllReadyH.cons rfl (fun K hK => ?_) AllReadyH.nil
          rw [if_pos (show Region.wanted _ _ = true by kernel_rfl)]
          refine wp_appendC (.tmp 28) (.tmp 36) 49 rfl N0 97 (.agg #[.int .i64 0, .string ⟨#[]⟩]) 2 24 Try.underlying49 waitinfo rfl (by omega) v1 CK.length (tcells CK) rfl Ow6.out (some ⟨gx, 0, none⟩) 1 1 (tcells [x]) rfl rfl Xw6.out.cells (tcell_oneCell _) (by simp only [maxLen]; omega) (by omega) (by have := HN0.out; have := Bw6.out.size; omega) ?_
          intro v2 w9 hown hgrow _ _
          have hb4 := Bw6.out.grown hgrow (by have := HN0.out; have := Bw6.out.size; omega) (own_base Ow6.out)
          rw [← tcells_append] at hown
          obtain ⟨A4, c4, rfl, hl4, hc4, hn4, hm4, ha4⟩ := own_readsT hown
          have HS9 := Lib.hid (HS.out _ hb4)
          rw [HN0.out] at hb4 ha4
          have B4 := Lib.hid hb4
          have C4 := Lib.hid hc4
          have A4L := Lib.hid ha4
          clear hown hgrow hb4 hc4 ha4
          refine hK.out _ _ HS9.out (fun hHeld => ?_)
          try simp only [Act.put, List.getElem_toArray, List.getElem_cons_succ, List.getElem_cons_zero, List.setIfInBounds_toArray, List.set_cons_zero, List.set_cons_succ]
          refine wpAnyH_take (i := 16) (v := .pointer (some ⟨r, 0, none⟩)) rfl (by kernel_rfl) (by kernel_rfl) (by kernel_rfl) (fun _ _ _ h => h) (Or.inl ⟨by kernel_rfl, fun w _ => by go_simp⟩) hHeld ?_
          try simp only [Act.put, List.getElem_toArray, List.getElem_cons_succ, List.getElem_cons_zero, List.setIfInBounds_toArray, List.set_cons_zero, List.set_cons_succ]
          refine wpAnyH_take (i := 17) (v := .pointer (some ⟨r, 1, none⟩)) rfl (by kernel_rfl) (by kernel_rfl) (by kernel_rfl) (fun _ _ _ h => h) (Or.inl ⟨by kernel_rfl, fun w _ => by go_simp⟩) hHeld ?_
          try simp only [Act.put, List.getElem_toArray, List.getElem_cons_succ, List.getElem_cons_zero, List.setIfInBounds_toArray, List.set_cons_zero, List.set_cons_succ]
          have RE := RD.out.keep B4.out
          obtain ⟨j1, j2⟩ := RE.head.get 1 _ rfl
          refine wpAnyH_ready (rs := [18]) (by kernel_rfl) (by simp) ?_
          refine AllReadyH.cons rfl (fun K hK => ?_) AllReadyH.nil
          go_simp
          clear j1 j2 RE
          have hok2 := flush_step_ok HOK.out HP.out KB.out KW.out (k + 1) (by omega)
          have hfin := RD.out.gone (D' := { P with blks := flushK D (k + 1) }) (C' := CK ++ [x]) B4.out C4.out A4L.out (by rw [hl4]; exact hn4) hm4 hok2 rfl (by show (flushK D (k + 1)).length = (flushK D k).length; rw [flushK_length, flushK_length]) rfl rfl (fun y hy => by
            rcases List.mem_append.1 hy with h | h
            · exact RD.out.cok y h
            · rw [List.mem_singleton.1 h, ← HX.out]; exact (HOK.out.waitAt k hlt).2) (by
            have hag := RD.out.agree
            have h2 := flush_agree (C := CK) HOK.out k hlt (fun a ha => hag a (by show a < (flushK D k).length; rw [flushK_length]; exact ha))
            rw [HX.out] at h2
            intro a ha
            exact h2 a (by have : a < (flushK D k).length := ha; rwa [flushK_length] at this)) (by rw [List.length_append, List.length_singleton]; omega)
          rw [hl4] at hfin
          have s2 := (hfin.head.get 2 _ rfl).1
          rw [show ({ P with blks := flushK D (k + 1) } : Dk).waits = D.waits from KW.out] at s2
          have R5 : Hid (∃ Ac cc, RefIn F (w9.setCell ⟨r, 1, none⟩ (.slice A4 (CK.length + 1) c4)) r Ac cc (some ⟨b, o, none⟩) wc { P with blks := flushK D (k + 1) } (C ++ D.waits.take (k + 1))) := Lib.hid ⟨_, _, by rw [take_snoc _ _ hlt, ← List.append_assoc, ← HCK.out, HX.out]; exact hfin⟩
          have T5 := Lib.hid ((TD.out.trans (Turn.of_below B4.out)).trans (Turn.set (F := fun b => b = r) (i := 1) w9 rfl (.slice A4 (CK.length + 1) c4)))
          have far : ∀ i, (w9.setCell ⟨r, 1, none⟩ (.slice A4 (CK.length + 1) c4)).cell? ⟨b, i, none⟩ = w9.cell? ⟨b, i, none⟩ := fun i => World.cell?_setCell_other w9 ⟨r, 1, none⟩ ⟨b, i, none⟩ _ (fun e => by injection e with e; exact HBR.out e.symm)
          refine hK.out _ _ ⟨s2, (far _).trans HS9.out.2.1, (far _).trans HS9.out.2.2⟩ (fun hHeld => ?_)
          try simp only [Act.put, List.getElem_toArray, List.getElem_cons_succ, List.getElem_cons_zero, List.setIfInBounds_toArray, List.set_cons_zero, List.set_cons_succ]
          clear hfin s2 hok2 far
          refine wpAnyH_done (by kernel_rfl) ?_ _
          clear hHeld
          go_wp2_with fail
          go_roundw
          case rel => exact ⟨k + 1, by omega, by go_num, R5.out, T5.out⟩
          case measure => simp [intOf]; omega
    · obtain rfl : k = D.waits.length := by omega
      clear hlt hk
      go_wp2_with fail
      go_ret
      have hwl := KW.out
      have hok := flushed_ok HOK.out
      have hfull : C ++ D.waits.take D.waits.length = C ++ D.waits := by rw [List.take_of_length_le (Nat.le_refl _)]
      have hri := RK.out
      rw [hfull] at hri
      rw [HFL.out] at hok ⊢
      have hfin := hri.more (D' := { P with blks := flushK D D.waits.length, waits := [] }) (Aw' := none) (wc' := 0) (Below.refl _ _) (Cells.nil _ _) (fun a e => by cases e) (Nat.le_refl _) (by simp [maxLen]) hok rfl rfl rfl
      exact ⟨rfl, ⟨_, _, _, _, hfin⟩, TK.out.trans (Turn.set (F := fun b => b = r) wr rfl _)⟩

theorem flushref_any (w : World) (h : RefAt F w r D C) (hroom : C.length + D.waits.length ≤ 1000) :
    Calls Try.prog 35 #[.pointer (some ⟨r, 0, none⟩)] w fun e w' => e = .returned (.int .i64 (flushE D)) ∧ (∃ C', RefAt F w' r (flushed D) C' ∧ C'.length + (flushed D).waits.length ≤ C.length + D.waits.length) ∧ Turn (fun b => b = r) w w' := by
  cases hd : D.down
  · by_cases hl : D.left = 0
    · have ef : flushed D = powered D := by unfold flushed; rw [if_neg (by rw [hd]; decide), if_pos hl]
      have ee : flushE D = 20 := by unfold flushE powerE; rw [if_neg (by rw [hd]; decide), if_pos hl]
      have hp : powerE D = 20 := by unfold powerE; rw [if_pos hl]
      rw [ef, ee]
      have hpw := (powered_keeps D).2
      have HT := Lib.hid (through_any w h)
      obtain ⟨h4, _⟩ : w.cell? ⟨r, 4, none⟩ = some (.bool D.down) ∧ True := by obtain ⟨_, _, _, _, h⟩ := h; exact ⟨(h.head.get 4 _ rfl).1, trivial⟩
      rw [hd] at h4
      rw [hp] at HT
      rw [hpw]
      clear h hd hl hp ef ee hpw
      go_enter Try.func35, Try.ntmps35
      go_wp2_with fail
      refine HT.out.mono ?_
      rintro e w1 ⟨rfl, hr, ht⟩
      have HR := Lib.hid hr
      have HTN := Lib.hid ht
      clear hr ht
      go_wp2_with fail
      go_ret
      exact ⟨rfl, ⟨C, HR.out, Nat.le_refl _⟩, HTN.out⟩
    · rw [show flushE D = 0 by unfold flushE powerE; rw [if_neg (by rw [hd]; decide), if_neg hl]]
      refine (flushref_in w h hd hl hroom).mono ?_
      rintro e w' ⟨rfl, hr, ht⟩
      refine ⟨rfl, ⟨_, hr, ?_⟩, ht⟩
      have ew : (flushed D).waits = [] := by unfold flushed; rw [if_neg (by rw [hd]; decide), if_neg hl]
      rw [ew, List.length_append]
      simp
  · have ef : flushed D = D := by unfold flushed; rw [if_pos hd]
    have ee : flushE D = 20 := by unfold flushE; rw [if_pos hd]
    rw [ef, ee]
    have HR := Lib.hid h
    obtain ⟨h4, _⟩ : w.cell? ⟨r, 4, none⟩ = some (.bool D.down) ∧ True := by obtain ⟨_, _, _, _, h⟩ := h; exact ⟨(h.head.get 4 _ rfl).1, trivial⟩
    rw [hd] at h4
    clear h hd ef ee
    go_enter Try.func35, Try.ntmps35
    go_wp2_with fail
    go_ret
    exact ⟨rfl, ⟨C, HR.out, Nat.le_refl _⟩, Turn.refl _ _⟩
end

end Go.Proofs.Ytdnhlpddnbholaa
