/-
  super.Decode.
-/
import Derived.Test.YtfnoeligaapnbaaSuG
namespace Go.Proofs.Ytfnoeligaapnbaa
open Go.RowKit Go.Shelf
set_option linter.unusedVariables false
set_option linter.unusedSimpArgs false
attribute [local go_sem] Oper.semAt_some

def noS : Sup := supF fun _ => 0
theorem noS_cells : (scells noS).toArray = #[.int .u64 0, .int .u32 0, .int .u32 0, .int .u32 0, .int .u32 0, .int .u32 0, .int .u32 0, .int .u32 0, .int .u32 0, .int .u32 0, .int .u64 0, .int .u64 0, .int .u64 0, .int .u64 0, .int .u64 0, .int .u64 0, .int .u64 0, .int .u64 0] := by rfl
def decS (p : List UInt8) : Sup := if isSup p then supOf (bodyOf p) else noS
def decE (p : List UInt8) : Int := if isSup p then 0 else 60

theorem MemC.there {w : World} {b : Nat} {s : Sup} (h : MemC w b 0 (scells s)) {n : Nat} (hn : n = 18 := by rfl) : w.there b 0 n := fun j hj => by
  subst hn
  obtain ⟨c, f⟩ := h.gets j _ (List.getElem?_eq_getElem (by rw [scells_length]; exact hj))
  rw [Nat.zero_add]
  exact ⟨by rw [c]; rfl, f⟩

theorem below_setCells {B b : Nat} (hB : B ≤ b) : ∀ (vs : List Value) (w : World) (o : Nat), Below B w (w.setCells b o vs)
  | [], w, o => Below.refl _ _
  | v :: vs, w, o => ((Below.refl B w).setCell (p := ⟨b, o, none⟩) hB v).trans (below_setCells hB vs _ (o + 1))
theorem MemC.setS {w : World} {b : Nat} {s : Sup} (h : MemC w b 0 (scells s)) (s' : Sup) : MemC (w.setCells b 0 (scells s')) b 0 (scells s') := by
  have ht : w.there b 0 (scells s').length := h.there (scells_length s')
  have hr := World.rangeAt_setCells_same w b 0 (scells s') ht
  have hz := World.there_setCells ht b 0 (scells s')
  have hb := below_setCells (Nat.le_refl b) (scells s') w 0
  refine ⟨⟨Nat.lt_of_lt_of_le h.at_.lt hb.size, fun j hj => hr j _ (List.getElem?_eq_getElem hj)⟩, fun j hj => (hz j hj).2⟩

theorem But.set (A : World) (q b i : Nat) (v : Value) : But b A ((A.drewN q).setCell ⟨b, i, none⟩ v) :=
  ⟨by simp [World.setCell, World.drewN], rfl, rfl, rfl, fun k hk => Below.heap_setCell _ _ _ _ hk⟩
theorem heap_setCells (b D : Nat) : ∀ (vs : List Value) (w : World) (o : Nat), D ≠ b → (w.setCells b o vs).heap[D]? = w.heap[D]?
  | [], w, o, _ => rfl
  | v :: vs, w, o, h => (heap_setCells b D vs _ (o + 1) h).trans (Below.heap_setCell _ _ _ _ h)
/-- How the world stands ahead of the k-th number. -/
structure DecI (b : List UInt8) (w : World) (g d pb Bq Bs k : Nat) (W : World) : Prop where
  mem : Mem8 W g 0 123 b
  sup : MemC W Bq 0 (scells (supK b k))
  body : W.cell? ⟨pb, 0, none⟩ = some (.slice (some ⟨g, 0, none⟩) 123 d)
  box : W.cell? ⟨Bs, 0, none⟩ = some (ptr Bq)
  res : MemC W w.heap.size 0 (scells noS)
  bw : Below w.heap.size w W
theorem DecI.keep {b : List UInt8} {w : World} {g d pb Bq Bs k N : Nat} {A C : World} (h : DecI b w g d pb Bq Bs k A) (hb : Below N A C) (h1 : w.heap.size < g) (h2 : g < pb) (h3 : pb < Bq) (h4 : Bq < Bs) (h5 : Bs < N) : DecI b w g d pb Bq Bs k C :=
  ⟨h.mem.below hb (by omega), h.sup.below hb (by omega), (hb.cell (p := ⟨pb, 0, none⟩) (show pb < N by omega)).trans h.body, (hb.cell (p := ⟨Bs, 0, none⟩) h5).trans h.box, h.res.below hb (by omega), h.bw.trans (hb.mono (by omega))⟩
theorem DecI.set {b : List UInt8} {w : World} {g d pb Bq Bs k : Nat} {A : World} (h : DecI b w g d pb Bq Bs k A) (h1 : w.heap.size < g) (h2 : g < pb) (h3 : pb < Bq) (h4 : Bq < Bs) (q : Nat) (hk : k < 18) : DecI b w g d pb Bq Bs (k + 1) ((A.drewN q).setCell ⟨Bq, k, none⟩ (cellv k (getF b k))) := by
  have hbut := But.set A q Bq k (cellv k (getF b k))
  have ho := hbut.2.2.2.2
  refine ⟨h.mem.other (ho g (by omega)) hbut.1, ?_, (World.cell?_of_block (a := ⟨pb, 0, none⟩) (ho pb (by omega))).trans h.body, (World.cell?_of_block (a := ⟨Bs, 0, none⟩) (ho Bs (by omega))).trans h.box, h.res.other (ho _ (by omega)) hbut.1, h.bw.trans (hbut.below (by omega))⟩
  rw [supK_step b k hk]
  exact (h.sup.drewN q).setAt k (by rw [scells_length]; exact hk) _

theorem sup_leaves {n : Nat} {R : Ending → World → Prop} {tmps : Array Value} {W : World} {B : Nat} {s : Sup} {k : Int}
    (t2 : tmps[2]?.getD undef = .pointer (some ⟨B, 0, none⟩)) (t3 : tmps[3]?.getD undef = .int .i64 k) (h : MemC W B 0 (scells s)) (hR : R (.returned (.tuple #[sval s, .int .i64 k])) W) :
    LeavesInM Fence.wide n Try.prog Try.f14 tmps R [] .returning W := by
  refine ⟨.tuple #[sval s, .int .i64 k], ?_, hR⟩
  have hl := run_loadVar_mid W B 0 27 (scells s) _ h.range Try.underlying27 rfl (supinfo s)
  unfold sval
  simp [results, Try.f14, Sem.run_bind, Sem.run_pure, asAddr, t2, t3, hl]

set_option maxRecDepth 100000 in
set_option maxHeartbeats 4000000 in
theorem decode_any (A : Option Addr) (n c : Nat) (p : List UInt8) (w : World) (h : Reads8 w A n p) (hn : n ≤ maxLen) (hnc : n ≤ c) :
    Calls Try.prog 14 #[.slice A n c] w fun e w' => e = .returned (.tuple #[sval (decS p), .int .i64 (decE p)]) ∧ Below w.heap.size w w' := by
  have HR := Lib.hid h; clear h
  refine (callsIn_wide (n := 5)).1 ?_
  refine callsIn_of_wp_marks Try.func14 rfl trivial ?_ rfl
  simp only [Try.ntmps14, List.size_toArray, List.length_cons, List.length_nil, Nat.reduceAdd, Nat.reduceSub, Array.replicate_succ, Array.replicate_zero, List.push_toArray, List.append_toArray, List.nil_append, List.cons_append]
  refine wpIn_wide.2 ?_
  go_upto_region 1 with fail
  rw [← noS_cells]
  obtain ⟨W0, hW0⟩ : ∃ W0 : World, W0 = w.alloc (.cells (scells noS).toArray 27) := ⟨_, rfl⟩
  have B0 : Hid (Below w.heap.size w W0) := Lib.hid (by rw [hW0]; exact (Below.refl _ w).alloc (Nat.le_refl _) _)
  have S0 : Hid (MemC W0 w.heap.size 0 (scells noS)) := Lib.hid (by rw [hW0]; exact MemC.new w (scells noS) _)
  rw [← hW0]
  clear hW0
  go_wp2_with fail
  cases hp : isPage p
  · have HB : Hid (isSup p = false) := Lib.hid (by unfold isSup; rw [hp]; rfl)
    have hR1 := HR.out.keep (B0.out)
    refine (open_no A n c p _ hR1 hn hnc hp).mono ?_
    rintro e w1 ⟨rfl, q, hq⟩
    have B1 : Hid (Below W0.heap.size W0 w1) := Lib.hid (by rw [hq]; exact bdn W0 q)
    have S1 := Lib.hid (S0.out.keep B1.out)
    have H1 := Lib.hid (B0.out.trans (B1.out.mono B0.out.size))
    clear hp hR1 hq B1 S0 B0
    go_upto_region 3 with fail
    obtain ⟨W2, hW2⟩ : ∃ W2 : World, W2 = w1.alloc (.cells #[.slice none 0 0] 28) := ⟨_, rfl⟩
    have B2 : Hid (Below w1.heap.size w1 W2) := Lib.hid (by rw [hW2]; exact (Below.refl _ _).alloc (Nat.le_refl _) _)
    rw [← hW2]
    have S2 := Lib.hid (S1.out.keep B2.out)
    have H2 := Lib.hid (H1.out.trans (B2.out.mono H1.out.size))
    clear hW2 B2 S1 H1
    refine wp_region_lit ?_
    refine wpList_plain rfl fun K hK => ?_
    unfold Oper.wp execOp
    go_simp
    refine hK _ _ ?_
    refine wpList_store_mid rfl 27 (.tmp 2) (.tmp 32) rfl w.heap.size 0 (scells noS).toArray rfl rfl (S2.out.there) ?_ (all_oneCell_toArray (scells_one noS)) ?_
    · simpa using supinfo noS
    have HM := Lib.hid (S2.out.setS noS)
    have HZ := Lib.hid (H2.out.trans (below_setCells (Nat.le_refl w.heap.size) (scells noS) W2 0))
    rw [List.toList_toArray]
    clear S2 H2
    obtain ⟨W3, hW3⟩ : ∃ W3 : World, W3 = W2.setCells w.heap.size 0 (scells noS) := ⟨_, rfl⟩
    rw [← hW3] at HM HZ ⊢
    clear hW3
    go_wp2_with fail
    refine sup_leaves rfl rfl HM.out ⟨?_, HZ.out⟩
    unfold decS decE
    rw [HB.out]
    rfl
  · have H123 : Hid ((bodyOf p).length = 123) := Lib.hid (by
      have : p.length = 128 := by have h1 := hp; unfold isPage at h1; simp only [Bool.and_eq_true, decide_eq_true_eq] at h1; exact h1.1
      unfold bodyOf; simp; omega)
    have HP := Lib.hid hp
    refine (open_yes A n c p _ (HR.out.keep B0.out) hnc hp).mono ?_
    rintro e w1 ⟨v, rfl, hF⟩
    obtain ⟨g, d, rfl, hg, hd, hdm, hM, hB⟩ := hF.open_ H123.out
    replace hM : Mem8 w1 g 0 123 (bodyOf p) := hM
    have S1 := Lib.hid (S0.out.keep hB)
    have H1 := Lib.hid (B0.out.trans (hB.mono B0.out.size))
    have HM := Lib.hid hM
    have HG := Lib.hid (show w.heap.size < g ∧ g < w1.heap.size from ⟨Nat.lt_of_lt_of_le S0.out.at_.lt hg, hM.lt⟩)
    clear hp hM hB hF S0 B0 hg
    generalize hkd : p.headD 0 = kd at *
    have HKD := Lib.hid hkd; clear hkd
    by_cases h6 : kd = 6
    · subst h6
      go_wp2_with fail
      obtain ⟨W2, hW2⟩ : ∃ W2 : World, W2 = w1.alloc (.cells #[.slice (some ⟨g, 0, none⟩) 123 d] 28) := ⟨_, rfl⟩
      have B2 : Hid (Below w1.heap.size w1 W2) := Lib.hid (by rw [hW2]; exact (Below.refl _ _).alloc (Nat.le_refl _) _)
      rw [← hW2]
      have S2 := Lib.hid (S1.out.keep B2.out)
      have H2 := Lib.hid (H1.out.trans (B2.out.mono H1.out.size))
      have HW2 := Lib.hid hW2
      clear hW2 B2 S1 H1
      have hM2 : Mem8 W2 g 0 123 (bodyOf p) := by
        rw [HW2.out]
        exact HM.out.keep ((Below.refl _ _).alloc (Nat.le_refl _) _)
      have hsub := hM2.reads.sub 108 7 (by omega) (by omega)
      refine (max_any g (0 + 108) 7 (d - 108) _ _ hsub (by omega) (by simp only [maxLen]; omega)).mono ?_
      rintro e w' ⟨⟨m, rfl, hm⟩, rfl⟩
      replace hm : decide (0 < m) = !((midS (bodyOf p)).all (· == 0)) := hm
      have m0 : (0 : Int) ≤ (m : Int) := Int.natCast_nonneg _
      cases hz : (midS (bodyOf p)).all (· == 0)
      · rw [hz] at hm
        have hmp : (0 : Int) < (m : Int) := by have := of_decide_eq_true hm; omega
        have HB : Hid (isSup p = false) := Lib.hid (by unfold isSup; rw [hz]; simp)
        clear hm hz hsub hM2
        go_upto_region 3 with fail
        refine wp_region_lit ?_
        refine wpList_plain rfl fun K hK => ?_
        unfold Oper.wp execOp
        go_simp
        refine hK _ _ ?_
        refine wpList_store_mid rfl 27 (.tmp 2) (.tmp 32) rfl w.heap.size 0 (scells noS).toArray rfl rfl (S2.out.there) ?_ (all_oneCell_toArray (scells_one noS)) ?_
        · simpa using supinfo noS
        have HM := Lib.hid (S2.out.setS noS)
        have HZ := Lib.hid (H2.out.trans (below_setCells (Nat.le_refl w.heap.size) (scells noS) W2 0))
        rw [List.toList_toArray]
        clear S2 H2
        clear HW2
        obtain ⟨W3, hW3⟩ : ∃ W3 : World, W3 = W2.setCells w.heap.size 0 (scells noS) := ⟨_, rfl⟩
        rw [← hW3] at HM HZ ⊢
        clear hW3
        go_wp2_with fail
        refine sup_leaves rfl rfl HM.out ⟨?_, HZ.out⟩
        unfold decS decE
        rw [HB.out]
        rfl
      · rw [hz] at hm
        have hmp : m = 0 := by have := of_decide_eq_false hm; omega
        subst hmp
        have HZ0 := Lib.hid hz
        have HM2 := Lib.hid hM2
        have HPB : Hid (W2.cell? ⟨w1.heap.size, 0, none⟩ = some (.slice (some ⟨g, 0, none⟩) 123 d)) := Lib.hid (by rw [HW2.out]; exact ((MemC.new w1 [.slice (some ⟨g, 0, none⟩) 123 d] _).gets 0 _ rfl).1)
        have HS2 : Hid (W2.heap.size = w1.heap.size + 1) := Lib.hid (by rw [HW2.out]; simp)
        clear hm hz hsub hM2 m0 HM HW2
        go_upto_region 5 with fail
        rw [← noS_cells]
        obtain ⟨W3, hW3⟩ : ∃ W3 : World, W3 = W2.alloc (.cells (scells noS).toArray 27) := ⟨_, rfl⟩
        rw [← hW3]
        have hs3 : W3.heap.size = W2.heap.size + 1 := by rw [hW3]; simp
        have B3 : Below W2.heap.size W2 W3 := by rw [hW3]; exact (Below.refl _ _).alloc (Nat.le_refl _) _
        have S3 : MemC W3 W2.heap.size 0 (scells (supK (bodyOf p) 0)) := by rw [hW3, supK_zero]; exact MemC.new W2 (scells noS) _
        clear hW3
        go_wp2_with fail
        refine (callsIn_wide.1 (fieldsf_in 5 _ _)).mono ?_
        rintro e W4 ⟨rfl, hw4⟩
        have hs4 : W4.heap.size = W3.heap.size + 1 := by rw [hw4]; simp
        have B4 : Below W3.heap.size W3 W4 := by rw [hw4]; exact (Below.refl _ _).alloc (Nat.le_refl _) _
        have B24 : Below W2.heap.size W2 W4 := B3.trans (B4.mono (by omega))
        have hX : W4.cell? ⟨W3.heap.size, 0, none⟩ = some (ptr W2.heap.size) := by
          rw [hw4]
          exact ((MemC.new W3 [ptr W2.heap.size] _).gets 0 _ rfl).1
        have hI0 : DecI (bodyOf p) w g d w1.heap.size W2.heap.size W3.heap.size 0 W4 :=
          ⟨HM2.out.keep B24, S3.keep B4, (B24.cell (p := ⟨w1.heap.size, 0, none⟩) (show w1.heap.size < W2.heap.size by have := HS2.out; omega)).trans HPB.out, hX, S2.out.keep B24, H2.out.trans (B24.mono H2.out.size)⟩
        have HLT := Lib.hid (show w.heap.size < g ∧ g < w1.heap.size ∧ w1.heap.size < W2.heap.size ∧ W2.heap.size < W3.heap.size ∧ W3.heap.size < W4.heap.size from ⟨HG.out.1, HG.out.2, by have := HS2.out; omega, by omega, by omega⟩)
        clear hw4 hX B24 B4 B3 S3 hs3 hs4 HM2 HPB H2 S2 HS2 HG
        go_wp2_with fail
        refine wpIn_wide.1 (wpIn_range_ok (X := FX) rfl (n := 5) (by omega) (gf := 38) (lb := #[ptr W3.heap.size]) rfl trivial (enters_of Try.func38 (by kernel_rfl) rfl)
          (encs := fenc) (fun _ => rfl) (N := 18) (Ok := FOk (fun _ => True) W3.heap.size) (I := DecI (bodyOf p) w g d w1.heap.size W2.heap.size W3.heap.size) (fun k A C h hb => h.keep hb HLT.out.1 HLT.out.2.1 HLT.out.2.2.1 HLT.out.2.2.2.1 HLT.out.2.2.2.2)
          (fields_seq 4 (by omega) W3.heap.size W2.heap.size (fun _ => True) _ W4 (fun k A h => ⟨h.box, _, trivial, h.sup⟩)) hI0 ?round ?done)
        case round =>
          rintro l B k ⟨xk, xg, xv⟩ W hl hlB hB hk hi ⟨h1, ⟨s', hs', h2⟩, hg⟩
          dsimp only at h1 h2 hg
          clear h2 hs' s'
          subst h1
          unfold fenc
          dsimp only
          have hbd := foff_le xk (by omega)
          have hbd2 := fsize_le xk
          obtain ⟨f0, caps, rfl⟩ := hg.func
          gi_wp2
          have hbA : Below W4.heap.size W (W.alloc (.cells #[.int .i64 (fsize xk : Int), .int .u64 (xg : Int), .func f0 #[] caps] 60)) := (Below.refl _ _).alloc (by omega) _
          refine ⟨hbA, High.alloc _ _, ?_⟩
          intro Wb hbut
          have hIb := hi.keep (hbA.trans (hbut.below (by omega))) HLT.out.1 HLT.out.2.1 HLT.out.2.2.1 HLT.out.2.2.2.1 HLT.out.2.2.2.2
          have mf : MemC Wb W.heap.size 0 [.int .i64 (fsize xk : Int), .int .u64 (xg : Int), .func f0 #[] caps] := (MemC.new W [.int .i64 (fsize xk : Int), .int .u64 (xg : Int), .func f0 #[] caps] 60).other (hbut.2.2.2.2 _ (by omega)) hbut.1
          have hgb : GoodSet B W3.heap.size xk (.func f0 #[] caps) Wb := hg.keep fun ib h1 h2 => (World.cell?_of_block (a := ⟨ib, 0, none⟩) (hbut.2.2.2.2 ib (by omega))).trans (World.cell?_of_block (a := ⟨ib, 0, none⟩) (Below.heap_alloc _ _ _ h2))
          obtain ⟨gf, rfl, hen, hcall⟩ := set_any Wb B W3.heap.size W2.heap.size xk (getF (bodyOf p) xk) f0 caps _ hk hgb hIb.box hIb.sup (scells_length _) (getF_lt _ _)
          obtain ⟨f0, _⟩ := mf.gets 0 _ rfl
          obtain ⟨f2, _⟩ := mf.gets 2 _ rfl
          have e1 := hIb.body
          have HI := Lib.hid hIb
          have HK := Lib.hid hk
          have HBD := Lib.hid (And.intro hbd hbd2)
          have hs1 := foff_succ xk
          have hs2 := foff_le (xk + 1) (by omega)
          have HS := Lib.hid (show foff xk + fsize xk ≤ 123 by omega)
          have HC := Lib.hid hcall
          clear hi hbA hbut hIb mf hk hlB hB hl hs1 hs2 hbd hbd2 hg hgb hcall
          gi_wp2_with fail
          refine ⟨trivial, ?_⟩
          refine (CallsIn.inRound l (callsIn_wide.2 (get_yes g 0 123 d (bodyOf p) (foff xk) (fsize xk) Wb HI.out.mem.reads (by simp only [maxLen]; omega) hd HBD.out.2.1 HBD.out.2.2 HS.out))).mono ?_
          rintro e w5 ⟨rfl, rfl⟩
          have HGF : Hid (num8 (((bodyOf p).drop (foff xk)).take (fsize xk)) = getF (bodyOf p) xk) := Lib.hid rfl
          rw [HGF.out]
          gi_wp2_with fail
          refine ⟨trivial, ?_⟩
          refine (CallsIn.inRound l (callsIn_wide.2 HC.out)).mono ?_
          rintro e w6 ⟨⟨v, rfl⟩, q, rfl⟩
          have HM := Lib.hid (HI.out.set HLT.out.1 HLT.out.2.1 HLT.out.2.2.1 HLT.out.2.2.2.1 q HK.out)
          have hbq := But.set Wb q W2.heap.size xk (cellv xk (getF (bodyOf p) xk))
          have HH := Lib.hid (hbq.high (B := W4.heap.size) (by have := HLT.out; omega))
          clear hbq e1 f0 f2
          gi_wp2
          exact ⟨HM.out, HH.out⟩
        case done =>
          intro D W hD hi hdef
          have hsup := hi.sup
          rw [supK_all] at hsup
          obtain ⟨c0, _⟩ := hsup.gets 0 _ (scells_gen _)
          have e1 := hi.body
          have HI := Lib.hid hi
          have HS := Lib.hid hsup
          have HDF := Lib.hid hdef
          have HL := Lib.hid (show w.heap.size < D by have := HLT.out; omega)
          clear hi hsup hdef hD
          go_wp2_with fail
          refine (get_yes g 0 123 d (bodyOf p) 115 8 W HI.out.mem.reads (by simp only [maxLen]; omega) hd (by omega) (by omega) (by omega)).mono ?_
          rintro e w5 ⟨rfl, rfl⟩
          have HGA : Hid (num8 (((bodyOf p).drop 115).take 8) = againS (bodyOf p)) := Lib.hid rfl
          rw [HGA.out]
          have HBW := Lib.hid HI.out.bw
          have HRS := Lib.hid HI.out.res
          have HWD : Hid (D < W.heap.size) := Lib.hid (Array.getElem?_eq_some_iff.1 HDF.out).1
          clear e1
          by_cases hag : againS (bodyOf p) = (supOf (bodyOf p)).gen.toNat
          · rw [hag]
            go_upto_region 11 with fail
            refine wp_region_lit ?_
            iterate 5 (refine wpList_plain rfl fun K hK => ?_; unfold Oper.wp execOp; go_simp; refine hK _ _ ?_; clear hK K)
            refine BigFrame.wpList_want (by rfl) fun K hK => wp_load_mid 27 (.tmp 7) rfl W2.heap.size 0 rfl (scells (supOf (bodyOf p))) _ HS.out.range Try.underlying27 rfl (supinfo _) (hK _ _ ?_)
            clear hK K
            have HAG := Lib.hid hag
            clear hag c0
            go_wp2_with fail
            refine (right_any (supOf (bodyOf p)) _).mono ?_
            rintro e W5 ⟨rfl, hb5⟩
            have HS5 := Lib.hid (HS.out.keep hb5)
            have HR5 := Lib.hid (HRS.out.keep hb5)
            have HB5 := Lib.hid (HBW.out.trans (hb5.mono HBW.out.size))
            have HD5 := Lib.hid ((hb5.block D HWD.out).trans HDF.out)
            clear hb5
            cases hrt : rightS (supOf (bodyOf p))
            · have HB : Hid (isSup p = false) := Lib.hid (by unfold isSup; rw [hrt]; simp)
              clear hrt
              go_upto_region 12 with fail
              refine wp_region_lit ?_
              refine wpList_plain rfl fun K hK => ?_
              unfold Oper.wp execOp
              go_simp
              refine hK _ _ ?_
              refine wpList_store_mid rfl 27 (.tmp 2) (.tmp 62) rfl w.heap.size 0 (scells noS).toArray rfl rfl (HR5.out.there) ?_ (all_oneCell_toArray (scells_one noS)) ?_
              · simpa using supinfo noS
              have HM := Lib.hid (HR5.out.setS noS)
              have HZ := Lib.hid (HB5.out.trans (below_setCells (Nat.le_refl w.heap.size) (scells noS) W5 0))
              rw [List.toList_toArray]
              have HD7 : Hid ((W5.setCells w.heap.size 0 (scells noS)).heap[D]? = some (.deferred (some []))) := Lib.hid ((heap_setCells _ _ _ _ _ (by have := HL.out; omega)).trans HD5.out)
              obtain ⟨W7, hW7⟩ : ∃ W7 : World, W7 = W5.setCells w.heap.size 0 (scells noS) := ⟨_, rfl⟩
              rw [← hW7] at HM HZ HD7 ⊢
              clear hW7
              go_wp2_with fail
              refine ⟨by simp, .inl ⟨_, _, rfl, run_takeDeferred HD7.out, ?_⟩⟩
              have hbut := But.put W7 D (.deferred none)
              refine sup_leaves rfl rfl (HM.out.other (hbut.2.2.2.2 _ (by have := HL.out; omega)) hbut.1) ⟨?_, HZ.out.trans (hbut.below (by have := HL.out; omega))⟩
              unfold decS decE
              rw [HB.out]
              rfl
            · have HB : Hid (isSup p = true) := Lib.hid (by unfold isSup; rw [hrt, HP.out, HKD.out, HZ0.out, HAG.out]; simp)
              clear hrt
              go_upto_region 13 with fail
              refine wp_region_lit ?_
              refine wpList_load_mid rfl 27 (.tmp 7) rfl W2.heap.size 0 rfl (scells (supOf (bodyOf p))) _ HS5.out.range Try.underlying27 rfl (supinfo _) ?_
              refine wpList_store_mid rfl 27 (.tmp 2) (.tmp 63) rfl w.heap.size 0 (scells (supOf (bodyOf p))).toArray rfl rfl (HR5.out.there (by simp [scells_length])) ?_ (all_oneCell_toArray (scells_one _)) ?_
              · simpa using supinfo (supOf (bodyOf p))
              have HM := Lib.hid (HR5.out.setS (supOf (bodyOf p)))
              have HZ := Lib.hid (HB5.out.trans (below_setCells (Nat.le_refl w.heap.size) (scells (supOf (bodyOf p))) W5 0))
              rw [List.toList_toArray]
              have HD7 : Hid ((W5.setCells w.heap.size 0 (scells (supOf (bodyOf p)))).heap[D]? = some (.deferred (some []))) := Lib.hid ((heap_setCells _ _ _ _ _ (by have := HL.out; omega)).trans HD5.out)
              obtain ⟨W7, hW7⟩ : ∃ W7 : World, W7 = W5.setCells w.heap.size 0 (scells (supOf (bodyOf p))) := ⟨_, rfl⟩
              rw [← hW7] at HM HZ HD7 ⊢
              clear hW7
              go_wp2_with fail
              refine ⟨by simp, .inl ⟨_, _, rfl, run_takeDeferred HD7.out, ?_⟩⟩
              have hbut := But.put W7 D (.deferred none)
              refine sup_leaves rfl rfl (HM.out.other (hbut.2.2.2.2 _ (by have := HL.out; omega)) hbut.1) ⟨?_, HZ.out.trans (hbut.below (by have := HL.out; omega))⟩
              unfold decS decE
              rw [HB.out]
              rfl
          · have hagi : ¬ (againS (bodyOf p) : Int) = ((supOf (bodyOf p)).gen.toNat : Int) := fun e => hag (Int.ofNat_inj.1 e)
            have HB : Hid (isSup p = false) := Lib.hid (by unfold isSup; rw [decide_eq_false hag]; simp)
            clear hag
            go_upto_region 12 with fail
            refine wp_region_lit ?_
            refine wpList_plain rfl fun K hK => ?_
            unfold Oper.wp execOp
            go_simp
            refine hK _ _ ?_
            refine wpList_store_mid rfl 27 (.tmp 2) (.tmp 62) rfl w.heap.size 0 (scells noS).toArray rfl rfl (HRS.out.there) ?_ (all_oneCell_toArray (scells_one noS)) ?_
            · simpa using supinfo noS
            have HM := Lib.hid (HRS.out.setS noS)
            have HZ := Lib.hid (HBW.out.trans (below_setCells (Nat.le_refl w.heap.size) (scells noS) W 0))
            rw [List.toList_toArray]
            have HD7 : Hid ((W.setCells w.heap.size 0 (scells noS)).heap[D]? = some (.deferred (some []))) := Lib.hid ((heap_setCells _ _ _ _ _ (by have := HL.out; omega)).trans HDF.out)
            obtain ⟨W7, hW7⟩ : ∃ W7 : World, W7 = W.setCells w.heap.size 0 (scells noS) := ⟨_, rfl⟩
            rw [← hW7] at HM HZ HD7 ⊢
            clear hW7
            go_wp2_with fail
            refine ⟨by simp, .inl ⟨_, _, rfl, run_takeDeferred HD7.out, ?_⟩⟩
            have hbut := But.put W7 D (.deferred none)
            refine sup_leaves rfl rfl (HM.out.other (hbut.2.2.2.2 _ (by have := HL.out; omega)) hbut.1) ⟨?_, HZ.out.trans (hbut.below (by have := HL.out; omega))⟩
            unfold decS decE
            rw [HB.out]
            rfl
    · have h6i : ¬ (kd.toNat : Int) = 6 := by
        intro e
        exact h6 (UInt8.toNat_inj.1 (Int.ofNat_inj.1 e))
      have HB : Hid (isSup p = false) := Lib.hid (by unfold isSup; rw [HKD.out, decide_eq_false h6]; simp)
      clear h6
      go_upto_region 3 with fail
      obtain ⟨W2, hW2⟩ : ∃ W2 : World, W2 = w1.alloc (.cells #[.slice (some ⟨g, 0, none⟩) 123 d] 28) := ⟨_, rfl⟩
      have B2 : Hid (Below w1.heap.size w1 W2) := Lib.hid (by rw [hW2]; exact (Below.refl _ _).alloc (Nat.le_refl _) _)
      rw [← hW2]
      have S2 := Lib.hid (S1.out.keep B2.out)
      have H2 := Lib.hid (H1.out.trans (B2.out.mono H1.out.size))
      clear hW2 B2 S1 H1
      refine wp_region_lit ?_
      refine wpList_plain rfl fun K hK => ?_
      unfold Oper.wp execOp
      go_simp
      refine hK _ _ ?_
      refine wpList_store_mid rfl 27 (.tmp 2) (.tmp 32) rfl w.heap.size 0 (scells noS).toArray rfl rfl (S2.out.there) ?_ (all_oneCell_toArray (scells_one noS)) ?_
      · simpa using supinfo noS
      have HM := Lib.hid (S2.out.setS noS)
      have HZ := Lib.hid (H2.out.trans (below_setCells (Nat.le_refl w.heap.size) (scells noS) W2 0))
      rw [List.toList_toArray]
      clear S2 H2
      obtain ⟨W3, hW3⟩ : ∃ W3 : World, W3 = W2.setCells w.heap.size 0 (scells noS) := ⟨_, rfl⟩
      rw [← hW3] at HM HZ ⊢
      clear hW3
      go_wp2_with fail
      refine sup_leaves rfl rfl HM.out ⟨?_, HZ.out⟩
      unfold decS decE
      rw [HB.out]
      rfl

end Go.Proofs.Ytfnoeligaapnbaa
