/-
  super.Encode of a right super.
-/
import Derived.Test.YtfnoeligaapnbaaSuE
import Derived.Laws.EntriesVeiled
namespace Go.Proofs.Ytfnoeligaapnbaa
open Go.RowKit Go.Shelf
set_option linter.unusedVariables false
set_option linter.unusedSimpArgs false
attribute [local go_sem] Oper.semAt_some

theorem MemC.range {w : World} {b : Nat} {s : Sup} (h : MemC w b 0 (scells s)) : w.rangeAt b 0 (scells s) := fun j v hv => by rw [Nat.zero_add]; exact (h.gets j v hv).1

theorem GoodSet.func {B Bs k : Nat} {v : Value} {W : World} (h : GoodSet B Bs k v W) : ∃ f caps, v = .func f #[] caps := by
  rcases h with ⟨_, h⟩ | ⟨_, h⟩ | ⟨_, _, _, _, _, h, _⟩ | ⟨_, _, _, _, _, h, _⟩ <;> exact ⟨_, _, h⟩

theorem Mem8.other {w w' : World} {P o n : Nat} {l : List UInt8} (h : Mem8 w P o n l) (e : w'.heap[P]? = w.heap[P]?) (hs : w'.heap.size = w.heap.size) : Mem8 w' P o n l :=
  ⟨h.len, by rw [hs]; exact h.lt, fun j hj => (World.cell?_of_block (w := w) (a := ⟨P, o + j, none⟩) e).trans (h.cell j hj), fun j hj => by
    have := h.free j hj
    simp only [World.frozen?, e] at this ⊢
    exact this⟩
theorem Fresh8.put {w w' : World} {v : Value} {l : List UInt8} (h : Fresh8 w w' v l) {D : Nat} {x y : Option (List Deferred)} (hD : w'.heap[D]? = some (.deferred x)) (hw : w.heap.size ≤ D) (hl : 0 < l.length) : Fresh8 w (w'.putObj D (.deferred y)) v l := by
  obtain ⟨g, c, rfl, h1, h2, h3, hm, hb⟩ := h
  have hne : g ≠ D := by
    rintro rfl
    have := hm.cell 0 hl
    simp [World.cell?, hD] at this
  have hbut := But.put w' D (.deferred y)
  exact ⟨g, c, rfl, h1, h2, h3, hm.other (hbut.2.2.2.2 g hne) hbut.1, hb.trans (hbut.below hw)⟩

structure EncI (s : Sup) (w : World) (g pb k : Nat) (W : World) : Prop where
  mem : Mem8 W g 0 123 (sb s k)
  sup : MemC W w.heap.size 0 (scells s)
  body : W.cell? ⟨pb, 0, none⟩ = some (.slice (some ⟨g, 0, none⟩) 123 123)
  box : W.cell? ⟨pb + 1, 0, none⟩ = some (ptr w.heap.size)
  bw : Below w.heap.size w W
theorem EncI.keep {s : Sup} {w : World} {g pb k N : Nat} {A C : World} (h : EncI s w g pb k A) (hb : Below N A C) (h1 : g < N) (h2 : w.heap.size < N) (h3 : pb + 1 < N) (hN : w.heap.size ≤ N) : EncI s w g pb k C :=
  ⟨h.mem.below hb h1, h.sup.below hb h2, (hb.cell (p := ⟨pb, 0, none⟩) (show pb < N by omega)).trans h.body, (hb.cell (p := ⟨pb + 1, 0, none⟩) h3).trans h.box, h.bw.trans (hb.mono hN)⟩

theorem EncI.wrote {s : Sup} {w : World} {g pb k lo hi : Nat} {A C : World} (h : EncI s w g pb k A) (hw : Wrote A C g lo hi) {k' : Nat} (hm : Mem8 C g 0 123 (sb s k')) (h1 : w.heap.size < g) (h2 : g < pb) : EncI s w g pb k' C :=
  ⟨hm, hw.farC h.sup (.inl (by omega)), (World.cell?_of_block (a := ⟨pb, 0, none⟩) (hw.other pb (by omega))).trans h.body, (World.cell?_of_block (a := ⟨pb + 1, 0, none⟩) (hw.other (pb + 1) (by omega))).trans h.box, h.bw.trans (hw.below (by omega))⟩
theorem High.alloc {B : Nat} (W : World) (o : Obj) : High B W (W.alloc o) := ⟨by simp, fun j _ h2 => Below.heap_alloc _ _ _ h2⟩

set_option maxRecDepth 100000 in
set_option maxHeartbeats 4000000 in
theorem encode_good (s : Sup) (w : World) (hr : rightS s = true) :
    Calls Try.prog 12 #[sval s] w fun e w' => ∃ v, e = .returned (.tuple #[v, .int .i64 0]) ∧ Fresh8 w w' v (spage s) := by
  have HF := Lib.hid hr
  obtain ⟨W0, hW0⟩ : ∃ W0 : World, W0 = w.alloc (.cells (scells s).toArray 27) := ⟨_, rfl⟩
  have B0 : Hid (Below w.heap.size w W0) := Lib.hid (by rw [hW0]; exact (Below.refl _ w).alloc (Nat.le_refl _) _)
  have S0 : Hid (MemC W0 w.heap.size 0 (scells s)) := Lib.hid (by rw [hW0]; exact MemC.new w (scells s) _)
  have HW := Lib.hid hW0; clear hW0 hr
  unfold sval
  refine (callsIn_wide (n := 5)).1 ?_
  refine callsIn_of_wp_marks Try.func12 rfl trivial ?_ rfl
  simp only [Try.ntmps12, List.size_toArray, List.length_cons, List.length_nil, Nat.reduceAdd, Nat.reduceSub, Array.replicate_succ, Array.replicate_zero, List.push_toArray, List.append_toArray, List.nil_append, List.cons_append]
  refine wpIn_wide.2 ?_
  go_upto_region 1 with fail
  rw [← HW.out]
  refine wp_region_lit ?_
  refine wpList_load_mid rfl 27 (.tmp 1) rfl w.heap.size 0 rfl (scells s) _ S0.out.range Try.underlying27 rfl (supinfo s) ?_
  go_wp2_with fail
  refine (right_any s _).mono ?_
  rintro e w1 ⟨rfl, hb⟩
  rw [HF.out]
  have S1 := Lib.hid (S0.out.keep hb)
  have B1 := Lib.hid (B0.out.trans (hb.mono B0.out.size))
  clear hb S0 B0
  obtain ⟨i0, hi, hz0, hz1, hz2⟩ := info_parts u8info
  go_wp2_with (at_make; refine wpList_make_full _ rfl _ _ 28 rfl w1.heap.size 5 i0 (.int .u8 0) 1 Try.underlying28 hi hz0 hz1 .i64 .i64 _ _ 123 rfl rfl rfl rfl (by rw [hz2]; omega) (by simp only [maxLen]; omega) (Nat.le_refl _) ?_)
  intro w2 hown hgrow
  have hb2 : Below w1.heap.size w1 w2 := (Below.refl _ _).grown hgrow (Nat.le_refl _) (by intro k hk; cases hk)
  have hm := (Blk8.of_made hown).mem
  rw [List.length_replicate] at hm
  have HM := Lib.hid hm
  have B2 := Lib.hid (B1.out.trans (hb2.mono B1.out.size))
  have S2 := Lib.hid (S1.out.keep hb2)
  have L1 := Lib.hid S1.out.at_.lt
  clear hown hgrow hi hz0 hz1 hz2 i0 hb2 hm B1 S1
  go_wp2_with fail
  refine (callsIn_wide.1 (fieldsf_in 5 _ _)).mono ?_
  rintro e w3 ⟨rfl, hw3⟩
  have W3 : EncI s w w1.heap.size w2.heap.size 0 w3 ∧ w3.heap.size = w2.heap.size + 2 := by
    have m1 := MemC.new w2 [.slice (some ⟨w1.heap.size, 0, none⟩) 123 123] 28
    have m2 := MemC.new (w2.alloc (.cells #[.slice (some ⟨w1.heap.size, 0, none⟩) 123 123] 28)) [ptr w.heap.size] 57
    rw [World.size_alloc] at m2
    have hb1 : Below w2.heap.size w2 (w2.alloc (.cells #[.slice (some ⟨w1.heap.size, 0, none⟩) 123 123] 28)) := (Below.refl _ _).alloc (Nat.le_refl _) _
    have hb : Below w2.heap.size w2 w3 := by rw [hw3]; exact hb1.alloc (by simp) _
    refine ⟨⟨?_, S2.out.keep hb, ?_, ?_, B2.out.trans (hb.mono B2.out.size)⟩, by rw [hw3]; simp⟩
    · rw [sb_zero]
      exact HM.out.keep hb
    · have := (m1.keep ((Below.refl _ _).alloc (Nat.le_refl _) (.cells #[ptr w.heap.size] 57))).gets 0 _ rfl
      rw [hw3]
      exact this.1
    · rw [hw3]
      exact (m2.gets 0 _ rfl).1
  obtain ⟨hI0, hs3⟩ := W3
  have l1 := L1.out
  have l2 := HM.out.lt
  have l0 := B2.out.size
  rw [World.size_alloc]
  clear hw3 B2 S2 HM L1
  go_wp2_with fail
  refine wpIn_wide.1 (wpIn_range_ok (X := FX) rfl (n := 5) (by omega) (gf := 38) (lb := #[ptr (w2.heap.size + 1)]) rfl trivial (enters_of Try.func38 (by kernel_rfl) rfl)
    (encs := fenc) (fun _ => rfl) (N := 18) (Ok := FOk (· = s) (w2.heap.size + 1)) (I := EncI s w w1.heap.size w2.heap.size) (fun k A C h hb => h.keep hb (by omega) (by omega) (by omega) (by omega))
    (fields_seq 4 (by omega) (w2.heap.size + 1) w.heap.size (· = s) _ w3 (fun k A h => ⟨h.box, s, rfl, h.sup⟩)) hI0 ?round ?done)
  case round =>
    rintro l B k ⟨xk, xg, xv⟩ W hl hlB hB hk hi ⟨h1, ⟨s', hs', h2⟩, hg⟩
    dsimp only at h1 h2 hg
    rw [hs'] at h2
    clear hs'
    subst h1 h2
    obtain ⟨f, caps, rfl⟩ := hg.func
    clear hg
    unfold fenc
    dsimp only
    have hbd := foff_le xk (by omega)
    have hbd2 := fsize_le xk
    gi_wp2
    have hbA : Below w3.heap.size W (W.alloc (.cells #[.int .i64 (fsize xk : Int), .int .u64 (fval s xk : Int), .func f #[] caps] 60)) := (Below.refl _ _).alloc (by omega) _
    refine ⟨hbA, High.alloc _ _, ?_⟩
    intro Wb hbut
    have hIb := hi.keep (N := w3.heap.size) (hbA.trans (hbut.below (by omega))) (by omega) (by omega) (by omega) (by omega)
    have mf : MemC Wb W.heap.size 0 [.int .i64 (fsize xk : Int), .int .u64 (fval s xk : Int), .func f #[] caps] := (MemC.new W [.int .i64 (fsize xk : Int), .int .u64 (fval s xk : Int), .func f #[] caps] 60).other (hbut.2.2.2.2 _ (by omega)) hbut.1
    obtain ⟨f0, _⟩ := mf.gets 0 _ rfl
    obtain ⟨f1, _⟩ := mf.gets 1 _ rfl
    have e1 := hIb.body
    have HI := Lib.hid hIb
    have HK := Lib.hid hk
    have HL := Lib.hid (show w.heap.size < w1.heap.size ∧ w1.heap.size < w2.heap.size ∧ w2.heap.size < w3.heap.size by omega)
    have hlt := fval_lt s xk
    have HLT := Lib.hid hlt
    have HBD := Lib.hid (And.intro hbd hbd2)
    have hs1 := foff_succ xk
    have hs2 := foff_le (xk + 1) (by omega)
    have HS := Lib.hid (show foff xk + fsize xk ≤ 123 by omega)
    clear hi hbA hbut hIb mf hlt hk hlB hB hl l0 l1 l2 hs3 hs1 hs2 hbd hbd2
    gi_wp2_with fail
    refine ⟨trivial, ?_⟩
    refine (CallsIn.inRound l (callsIn_wide.2 (put_yes' w1.heap.size 0 123 123 (sb s xk) (foff xk) (fsize xk) (fval s xk) Wb HI.out.mem (by simp only [maxLen]; omega) (Nat.le_refl _) HBD.out.2.1 HBD.out.2.2 HS.out HLT.out))).mono ?_
    rintro e w5 ⟨rfl, hw, hm⟩
    rw [sb_step s xk HK.out] at hm
    have HM := Lib.hid (HI.out.wrote hw hm HL.out.1 HL.out.2.1)
    have HH : Hid (High w3.heap.size Wb w5) := Lib.hid ⟨Nat.le_of_eq hw.size.symm, fun j h1 h2 => hw.other j (by have := HL.out; omega)⟩
    clear hw hm e1 f0 f1
    gi_wp2
    exact ⟨HM.out, HH.out⟩
  case done =>
    intro D W hD hi hdef
    have e1 := hi.body
    obtain ⟨c0, _⟩ := hi.sup.gets 0 _ (scells_gen s)
    have HI := Lib.hid hi
    have HDF := Lib.hid hdef
    have HL := Lib.hid (show w.heap.size < w1.heap.size ∧ w1.heap.size < w2.heap.size ∧ w2.heap.size < w3.heap.size ∧ w3.heap.size ≤ D by omega)
    clear hi hdef hD
    go_wp2_with fail
    refine (put_yes' w1.heap.size 0 123 123 (sb s 18) 115 8 s.gen.toNat W HI.out.mem (by simp only [maxLen]; omega) (Nat.le_refl _) (by omega) (by omega) (by omega) (UInt64.toNat_lt _)).mono ?_
    rintro e w5 ⟨rfl, hw, hm⟩
    rw [sb_last] at hm
    have e2 : w5.cell? ⟨w2.heap.size, 0, none⟩ = some (.slice (some ⟨w1.heap.size, 0, none⟩) 123 123) := (World.cell?_of_block (a := ⟨w2.heap.size, 0, none⟩) (hw.other w2.heap.size (by have := HL.out; omega))).trans e1
    have HB5 := Lib.hid (HI.out.bw.trans (hw.below (by have := HL.out; omega)))
    have HM5 := Lib.hid hm
    have HD5 : Hid (w5.heap[D]? = some (.deferred (some []))) := Lib.hid ((hw.other D (by have := HL.out; omega)).trans HDF.out)
    clear hw hm e1 c0
    go_wp2_with fail
    refine (seal_any _ 123 _ 6 (sbody s) _ HM5.out.reads (by omega)).mono ?_
    rintro e w6 ⟨v, rfl, hF⟩
    have HD6 : Hid (w6.heap[D]? = some (.deferred (some []))) := Lib.hid ((hF.below.block D (Array.getElem?_eq_some_iff.1 HD5.out).1).trans HD5.out)
    have HF6 := Lib.hid (hF.from HB5.out)
    clear hF
    go_wp2_with fail
    refine ⟨by simp, .inl ⟨_, _, rfl, run_takeDeferred HD6.out, ?_⟩⟩
    refine ⟨.tuple #[v, .int .i64 0], ?_, v, rfl, ?_⟩
    · simp [results, Try.f12, go_sem]
    · exact HF6.out.put HD6.out (by have := HL.out; omega) (by have := spage_length s; unfold spage at this; omega)

end Go.Proofs.Ytfnoeligaapnbaa
