/-
  super.fields: the iterator's contract.
-/
import Derived.Test.YtfnoeligaapnbaaSuC
import Derived.Sort.CutIn
import Derived.Stop.RegionWithIn
namespace Go.Proofs.Ytfnoeligaapnbaa
open Go.RowKit Go.Shelf
set_option linter.unusedVariables false
set_option linter.unusedSimpArgs false
attribute [local go_sem] Oper.semAt_some

def ptr (b : Nat) : Value := .pointer (some ⟨b, 0, none⟩)
/-- A function that sets the k-th number of the super to which box Bs points. -/
def GoodSet (B Bs k : Nat) (v : Value) (W : World) : Prop :=
  (k = 0 ∧ v = .func (.func 40) #[] #[ptr Bs]) ∨ (k = 1 ∧ v = .func (.func 41) #[] #[ptr Bs]) ∨
  (∃ i ib, k = 2 + i ∧ i < 8 ∧ B ≤ ib ∧ v = .func (.func 42) #[] #[ptr Bs, ptr ib] ∧ W.cell? ⟨ib, 0, none⟩ = some (.int .i64 (i : Int))) ∨
  (∃ i ib, k = 10 + i ∧ i < 8 ∧ B ≤ ib ∧ v = .func (.func 43) #[] #[ptr Bs, ptr ib] ∧ W.cell? ⟨ib, 0, none⟩ = some (.int .i64 (i : Int)))
abbrev FX := Nat × Nat × Value
def fenc (x : FX) : Array Value := #[.int .i64 (foff x.1 : Int), .agg #[.int .i64 (fsize x.1 : Int), .int .u64 (x.2.1 : Int), x.2.2]]
def FOk (R : Sup → Prop) (Bs : Nat) (B k : Nat) (x : FX) (W : World) : Prop := x.1 = k ∧ (∃ s, R s ∧ x.2.1 = fval s k) ∧ GoodSet B Bs k x.2.2 W

/-- How the iterator stands ahead of its k-th yield. -/
structure It (W V : World) (J : Nat → World → Prop) (l k : Nat) : Prop where
  at_ : V.cell? ⟨W.heap.size + 1, 0, none⟩ = some (.int .i64 (foff k : Int))
  fz : V.frozen? ⟨W.heap.size + 1, 0, none⟩ = false
  yb : V.cell? ⟨W.heap.size, 0, none⟩ = some (.func (.yield l) #[] #[])
  j : J k V
  sz : W.heap.size + 2 ≤ V.heap.size

theorem GoodSet.keep {B Bs k : Nat} {v : Value} {W W' : World} (h : GoodSet B Bs k v W) (hk : ∀ ib, B ≤ ib → ib < W.heap.size → W'.cell? ⟨ib, 0, none⟩ = W.cell? ⟨ib, 0, none⟩) : GoodSet B Bs k v W' := by
  rcases h with h | h | ⟨i, ib, h1, h2, h3, h4, h5⟩ | ⟨i, ib, h1, h2, h3, h4, h5⟩
  · exact .inl h
  · exact .inr (.inl h)
  · exact .inr (.inr (.inl ⟨i, ib, h1, h2, h3, h4, (hk ib h3 (World.block_lt_of_cell? W _ h5)).trans h5⟩))
  · exact .inr (.inr (.inr ⟨i, ib, h1, h2, h3, h4, (hk ib h3 (World.block_lt_of_cell? W _ h5)).trans h5⟩))

theorem It.keep {W V V' : World} {J : Nat → World → Prop} {l k : Nat} (h : It W V J l k) (HAB : Hid (∀ k A C, J k A → Below W.heap.size A C → J k C)) (hb : Below V.heap.size V V') : It W V' J l k := by
  have hsz := h.sz
  exact ⟨(hb.cell (p := ⟨W.heap.size + 1, 0, none⟩) (show W.heap.size + 1 < V.heap.size by omega)).trans h.at_, (hb.frozen (p := ⟨W.heap.size + 1, 0, none⟩) (show W.heap.size + 1 < V.heap.size by omega)).trans h.fz,
    (hb.cell (p := ⟨W.heap.size, 0, none⟩) (show W.heap.size < V.heap.size by omega)).trans h.yb, HAB.out _ _ _ h.j (hb.mono (by omega)), Nat.le_trans hsz hb.size⟩

theorem it_next {n : Nat} (hn : 3 ≤ n) {Bs l k : Nat} {R : Sup → Prop} {J : Nat → World → Prop} {W V : World}
    (HAB : Hid (∀ k A C, J k A → Below W.heap.size A C → J k C))
    (HY : Hid (∀ (k : Nat) (x : FX) (W1 : World), k < 18 → J k W1 → FOk R Bs W.heap.size k x W1 → W.heap.size ≤ W1.heap.size → YieldAt Fence.wide (n - 2) Try.prog l (fenc x) W1 fun e W' => e = .returned (.bool true) ∧ J (k + 1) W' ∧ High W.heap.size W1 W'))
    (h : It W V J l k) (hk : k < 18) {s : Sup} (hs : R s) {f : Fn} {caps : Array Value} (hg : GoodSet (W.heap.size + 2) Bs k (.func f #[] caps) V) :
    CallsIn Fence.wide (n - 1) Try.prog 39 #[.int .i64 (fsize k : Int), .int .u64 (fval s k : Int), .func f #[] caps, .pointer (some ⟨W.heap.size + 1, 0, none⟩), .pointer (some ⟨W.heap.size, 0, none⟩)] V fun e W' => e = .returned (.bool true) ∧ It W W' J l (k + 1) := by
  have ho := Only.set V (W.heap.size + 1) (W.heap.size + 1) 0 (.int .i64 (foff (k + 1) : Int))
  have hsz := h.sz
  have hcell : (V.setCell ⟨W.heap.size + 1, 0, none⟩ (.int .i64 (foff (k + 1) : Int))).cell? ⟨W.heap.size + 1, 0, none⟩ = some (.int .i64 (foff (k + 1) : Int)) := World.cell?_setCell_same' _ _ _ (by rw [h.at_]; rfl)
  have hg2 : GoodSet W.heap.size Bs k (.func f #[] caps) (V.setCell ⟨W.heap.size + 1, 0, none⟩ (.int .i64 (foff (k + 1) : Int))) := by
    rcases hg with h | h | ⟨i, ib, h1, h2, h3, h4, h5⟩ | ⟨i, ib, h1, h2, h3, h4, h5⟩
    · exact .inl h
    · exact .inr (.inl h)
    · exact .inr (.inr (.inl ⟨i, ib, h1, h2, by omega, h4, (ho.cell (by omega) (by omega)).trans h5⟩))
    · exact .inr (.inr (.inr ⟨i, ib, h1, h2, by omega, h4, (ho.cell (by omega) (by omega)).trans h5⟩))
  have hy := HY.out k (k, fval s k, .func f #[] caps) (V.setCell ⟨W.heap.size + 1, 0, none⟩ (.int .i64 (foff (k + 1) : Int))) hk (HAB.out _ _ _ h.j (ho.below (by omega) (by omega))) ⟨rfl, ⟨s, hs, rfl⟩, hg2⟩ (by rw [ho.size]; omega)
  refine (next_in (n - 1) (by omega) k l (W.heap.size + 1) W.heap.size (fval s k) f caps V (fun W' => J (k + 1) W' ∧ High W.heap.size (V.setCell ⟨W.heap.size + 1, 0, none⟩ (.int .i64 (foff (k + 1) : Int))) W') hk h.at_ h.fz h.yb (by omega) hy).mono ?_
  rintro e W' ⟨rfl, hj, hh⟩
  have hs2 := ho.size
  have k1 : W'.heap[W.heap.size + 1]? = (V.setCell ⟨W.heap.size + 1, 0, none⟩ (.int .i64 (foff (k + 1) : Int))).heap[W.heap.size + 1]? := hh.2 _ (by omega) (by omega)
  have k2 : W'.heap[W.heap.size]? = (V.setCell ⟨W.heap.size + 1, 0, none⟩ (.int .i64 (foff (k + 1) : Int))).heap[W.heap.size]? := hh.2 _ (Nat.le_refl _) (by omega)
  refine ⟨rfl, (World.cell?_of_block (a := ⟨W.heap.size + 1, 0, none⟩) k1).trans hcell, ?_, (World.cell?_of_block (a := ⟨W.heap.size, 0, none⟩) k2).trans ((ho.cell (by omega) (by omega)).trans h.yb), hj, by have := hh.1; omega⟩
  rw [World.frozen?_of_block (a := ⟨W.heap.size + 1, 0, none⟩) k1, World.frozen?_setCell]
  exact h.fz

set_option maxRecDepth 100000 in
set_option maxHeartbeats 8000000 in
theorem fields_seq (n : Nat) (hn : 3 ≤ n) (Bs Bq : Nat) (R : Sup → Prop) (I : Nat → World → Prop) (w : World) (hI : ∀ k A, I k A → A.cell? ⟨Bs, 0, none⟩ = some (ptr Bq) ∧ ∃ s, R s ∧ MemC A Bq 0 (scells s)) :
    SeqOk (X := FX) Fence.wide n (n - 2) Try.prog 38 #[ptr Bs] fenc 18 (FOk R Bs) I w := by
  intro l J W hW hab hJI hY h0
  have HI := Lib.hid (fun k A (h : J k A) => hI k A (hJI k A h))
  have HY := Lib.hid hY
  have HAB := Lib.hid hab
  have H0 := Lib.hid h0
  clear hI hJI hY hab h0 hW
  unfold ptr
  refine callsIn_of_wp Try.func38 rfl trivial ?_ rfl
  simp only [Try.ntmps38, List.size_toArray, List.length_cons, List.length_nil, Nat.reduceAdd, Nat.reduceSub, Array.replicate_succ, Array.replicate_zero, List.push_toArray, List.append_toArray, List.nil_append, List.cons_append]
  have hmf : ∀ (fn : Fn) (first cap : Array Value) (w : World), (Instr.makeFunc fn first cap).run Try.prog w = .ok (.func fn first cap) w := fun _ _ _ _ => rfl
  obtain ⟨c0, s0, r0, m0⟩ := HI.out 0 W H0.out
  obtain ⟨g0, _⟩ := m0.gets 0 _ (scells_gen s0)
  unfold ptr at c0
  have hl1 : Bs < W.heap.size := World.block_lt_of_cell? W _ c0
  have hl2 : Bq < W.heap.size := World.block_lt_of_cell? W _ g0
  gi_wp2
  obtain ⟨V0, hV0⟩ : ∃ V : World, V = (W.alloc (.cells #[.func (.yield l) #[] #[]] 76)).alloc (.cells #[.int .i64 0] 3) := ⟨_, rfl⟩
  rw [← hV0]
  have t0 : It W V0 J l 0 := by
    have hb : Below W.heap.size W V0 := by rw [hV0]; exact ((Below.refl _ _).alloc (Nat.le_refl _) _).alloc (by simp) _
    have m1 : MemC V0 (W.heap.size + 1) 0 [.int .i64 0] := by
      have := MemC.new (W.alloc (.cells #[.func (.yield l) #[] #[]] 76)) [.int .i64 0] 3
      rw [hV0]
      simpa using this
    have m2 : MemC V0 W.heap.size 0 [.func (.yield l) #[] #[]] := by
      rw [hV0]
      exact (MemC.new W [.func (.yield l) #[] #[]] _).keep ((Below.refl _ _).alloc (Nat.le_refl _) _)
    exact ⟨(m1.gets 0 _ rfl).1, (m1.gets 0 _ rfl).2, (m2.gets 0 _ rfl).1, HAB.out _ _ _ H0.out hb, m1.at_.lt⟩
  clear hV0
  refine ⟨trivial, fun _ => (by omega), ?_⟩
  refine (it_next hn HAB HY t0 (by omega) r0 (f := .func 40) (caps := #[ptr Bs]) (.inl ⟨rfl, rfl⟩)).mono ?_
  rintro e V1 ⟨rfl, t1⟩
  clear c0 g0 t0 m0 r0
  obtain ⟨c1, s1, r1, m1⟩ := HI.out 1 V1 t1.j
  obtain ⟨g1, _⟩ := m1.gets 1 _ (scells_blocks s1)
  unfold ptr at c1
  obtain ⟨b, hb⟩ : ∃ b, b = s1.blocks.toNat := ⟨_, rfl⟩
  have hbl : b < 4294967296 := by rw [hb]; exact UInt32.toNat_lt _
  rw [← hb] at g1
  have HB : Hid (b = fval s1 1) := Lib.hid hb
  clear hb
  gi_wp2
  refine ⟨trivial, fun _ => (by omega), ?_⟩
  rw [HB.out]
  refine (it_next hn HAB HY t1 (by omega) r1 (f := .func 41) (caps := #[ptr Bs]) (.inr (.inl ⟨rfl, rfl⟩))).mono ?_
  rintro e V2 ⟨rfl, t2⟩
  clear c1 g1 m1 t1 r1 hbl
  gi_wp2
  gi_loopw [27] (fun i wr => ∃ k : Nat, k ≤ 8 ∧ i = .int .i64 (k : Int) ∧ It W wr J l (2 + k)) (fun i _ => 8 - (intOf i).toNat)
  case atStart => exact ⟨0, Nat.zero_le _, rfl, t2⟩
  case round =>
    obtain ⟨k, hk, rfl, t⟩ := hrel
    have HT := Lib.hid t; clear t
    by_cases hlt : k < 8
    · have HK := Lib.hid hlt
      obtain ⟨c, s', r', m'⟩ := HI.out (2 + k) wr HT.out.j
      obtain ⟨g, _⟩ := m'.gets (2 + k) _ (scells_root s' k hlt)
      unfold ptr at c
      have hfl := fval_lt s' (2 + k)
      have hfs : fsize (2 + k) = 4 := by unfold fsize; rw [if_neg (by omega), if_pos (by omega)]
      rw [hfs] at hfl
      obtain ⟨x, hx⟩ : ∃ x, x = fval s' (2 + k) := ⟨_, rfl⟩
      rw [← hx] at g hfl
      have HX := Lib.hid hx
      have hx32 : x < 4294967296 := hfl
      have k0 : (0 : Int) ≤ (k : Int) := Int.natCast_nonneg _
      have k1 : (k : Int) < 8 := by omega
      have lB : Bs < wr.heap.size := World.block_lt_of_cell? wr _ c
      have lQ : Bq < wr.heap.size := World.block_lt_of_cell? wr _ g
      have hc : ∀ V, It W V J l (2 + k) → GoodSet (W.heap.size + 2) Bs (2 + k) (.func (.func 42) #[] #[.pointer (some ⟨Bs, 0, none⟩), .pointer (some ⟨wr.heap.size, 0, none⟩)]) V →
          CallsIn Fence.wide (n - 1) Try.prog 39 #[.int .i64 4, .int .u64 (x : Int), .func (.func 42) #[] #[.pointer (some ⟨Bs, 0, none⟩), .pointer (some ⟨wr.heap.size, 0, none⟩)], .pointer (some ⟨W.heap.size + 1, 0, none⟩), .pointer (some ⟨W.heap.size, 0, none⟩)] V fun e W' => e = .returned (.bool true) ∧ It W W' J l (2 + k + 1) := fun V hV hg => by
        have h := it_next hn HAB HY hV (by omega) r' hg
        rw [hfs, ← hx] at h
        exact h
      have HC := Lib.hid hc
      have HGS : Hid (GoodSet (W.heap.size + 2) Bs (2 + k) (.func (.func 42) #[] #[.pointer (some ⟨Bs, 0, none⟩), .pointer (some ⟨wr.heap.size, 0, none⟩)]) (wr.alloc (.cells #[.int .i64 (k : Int)] 3)).drew) := Lib.hid (.inr (.inr (.inl ⟨k, wr.heap.size, rfl, HK.out, HT.out.sz, rfl, ((MemC.new wr [.int .i64 (k : Int)] 3).drew.gets 0 _ rfl).1⟩)))
      have HTD : Hid (It W (wr.alloc (.cells #[.int .i64 (k : Int)] 3)).drew J l (2 + k)) := Lib.hid (HT.out.keep HAB (((Below.refl _ wr).alloc (Nat.le_refl _) _).drew))
      clear hx hfl hfs hc
      have wx : IntKind.u64.wrap (x : Int) = (x : Int) := IntWalk.u64_in _ (by omega)
      have hsz := HT.out.sz
      have HR' := Lib.hid r'
      gi_upto_region 7 with fail
      gi_region_with ((refine ⟨trivial, fun _ => (by omega), ?_⟩; refine (HC.out _ HTD.out HGS.out).mono ?_; rintro e V3 ⟨rfl, t3⟩))
      all_goals
        have HT4 := Lib.hid t3
        clear t3
        gi_wp2
        go_roundw
        case rel => exact ⟨k + 1, HK.out, by go_num, by have := HT4.out; rwa [show 2 + k + 1 = 2 + (k + 1) by omega] at this⟩
        case measure => have := HK.out; simp [intOf]; omega
    · obtain rfl : k = 8 := by omega
      have HTe := HT
      clear HT
      rw [show ((8 : Nat) : Int) = 8 from rfl]
      gi_wp2
      gi_loopw [42] (fun i wr => ∃ k : Nat, k ≤ 8 ∧ i = .int .i64 (k : Int) ∧ It W wr J l (10 + k)) (fun i _ => 8 - (intOf i).toNat)
      case atStart => exact ⟨0, Nat.zero_le _, rfl, HTe.out⟩
      case round =>
        obtain ⟨k, hk, rfl, t⟩ := hrel
        have HT := Lib.hid t; clear t
        by_cases hlt : k < 8
        · have HK := Lib.hid hlt
          obtain ⟨c, s', r', m'⟩ := HI.out (10 + k) wr HT.out.j
          obtain ⟨g, _⟩ := m'.gets (10 + k) _ (scells_mark s' k hlt)
          unfold ptr at c
          have hfl := fval_lt s' (10 + k)
          have hfs : fsize (10 + k) = 8 := by unfold fsize; rw [if_neg (by omega), if_neg (by omega)]
          rw [hfs] at hfl
          obtain ⟨x, hx⟩ : ∃ x, x = fval s' (10 + k) := ⟨_, rfl⟩
          rw [← hx] at g hfl
          have HX := Lib.hid hx
          have hx32 : x < 18446744073709551616 := hfl
          have k0 : (0 : Int) ≤ (k : Int) := Int.natCast_nonneg _
          have k1 : (k : Int) < 8 := by omega
          have lB : Bs < wr.heap.size := World.block_lt_of_cell? wr _ c
          have lQ : Bq < wr.heap.size := World.block_lt_of_cell? wr _ g
          have hc : ∀ V, It W V J l (10 + k) → GoodSet (W.heap.size + 2) Bs (10 + k) (.func (.func 43) #[] #[.pointer (some ⟨Bs, 0, none⟩), .pointer (some ⟨wr.heap.size, 0, none⟩)]) V →
              CallsIn Fence.wide (n - 1) Try.prog 39 #[.int .i64 8, .int .u64 (x : Int), .func (.func 43) #[] #[.pointer (some ⟨Bs, 0, none⟩), .pointer (some ⟨wr.heap.size, 0, none⟩)], .pointer (some ⟨W.heap.size + 1, 0, none⟩), .pointer (some ⟨W.heap.size, 0, none⟩)] V fun e W' => e = .returned (.bool true) ∧ It W W' J l (10 + k + 1) := fun V hV hg => by
            have h := it_next hn HAB HY hV (by omega) r' hg
            rw [hfs, ← hx] at h
            exact h
          have HC := Lib.hid hc
          have HGS : Hid (GoodSet (W.heap.size + 2) Bs (10 + k) (.func (.func 43) #[] #[.pointer (some ⟨Bs, 0, none⟩), .pointer (some ⟨wr.heap.size, 0, none⟩)]) (wr.alloc (.cells #[.int .i64 (k : Int)] 3)).drew) := Lib.hid (.inr (.inr (.inr ⟨k, wr.heap.size, rfl, HK.out, HT.out.sz, rfl, ((MemC.new wr [.int .i64 (k : Int)] 3).drew.gets 0 _ rfl).1⟩)))
          have HTD : Hid (It W (wr.alloc (.cells #[.int .i64 (k : Int)] 3)).drew J l (10 + k)) := Lib.hid (HT.out.keep HAB (((Below.refl _ wr).alloc (Nat.le_refl _) _).drew))
          clear hx hfl hfs hc
          have wx : IntKind.u64.wrap (x : Int) = (x : Int) := IntWalk.u64_in _ (by omega)
          have hsz := HT.out.sz
          have HR' := Lib.hid r'
          gi_upto_region 12 with fail
          gi_region_with ((refine ⟨trivial, fun _ => (by omega), ?_⟩; refine (HC.out _ HTD.out HGS.out).mono ?_; rintro e V3 ⟨rfl, t3⟩))
          all_goals
            have HT4 := Lib.hid t3
            clear t3
            gi_wp2
            go_roundw
            case rel => exact ⟨k + 1, HK.out, by go_num, by have := HT4.out; rwa [show 10 + k + 1 = 10 + (k + 1) by omega] at this⟩
            case measure => have := HK.out; simp [intOf]; omega
        · obtain rfl : k = 8 := by omega
          have hj := HT.out.j
          gi_wp2
          go_end0
          exact ⟨⟨_, rfl⟩, hj⟩

end Go.Proofs.Ytfnoeligaapnbaa
