/-
  DiskLast: the walk.
-/
import Derived.Test.YtdnhlpddnbholaaDkT
namespace Go.Proofs.Ytdnhlpddnbholaa
open Go.RowKit
set_option linter.unusedVariables false
set_option linter.unusedSimpArgs false
attribute [local go_sem ↓] Go.wp_at_zero Go.wp_at_succ

theorem boolinfo : (Try.prog.info? 4).map (fun i => (i.zero, i.size, i.bytes)) = some (some (.bool false), 1, 1) := by kernel_rfl
theorem kcells_one (l : List Bool) : ∀ u ∈ kcells l, u.oneCell' = true := by
  intro u hu
  simp [kcells] at hu
  rcases hu with ⟨_, rfl⟩ | ⟨_, rfl⟩ <;> rfl
theorem own_readsK {w : World} {base n : Nat} {e : TypeId} {v : Value} {l : List Bool} (h : w.ownsRow base e 1 v n (kcells l)) : ∃ A c, v = .slice A n c ∧ Cells w A (kcells l) ∧ n ≤ c ∧ c ≤ maxLen ∧ ∀ a, A = some a → v.ownBlock = some a.block := by
  rcases h.2 with ⟨rfl, rfl⟩ | ⟨g, cap, cur, rfl, hg, hh, hn, hm, _⟩
  · have e0 : l = [] := by have := h.1; simp [kcells] at this; simpa using this
    rw [e0]
    exact ⟨none, 0, rfl, Cells.nil _ _, Nat.le_refl _, by simp [maxLen], fun a ha => by cases ha⟩
  · exact ⟨_, cap, rfl, (MemC.of_ownC h).1.cells, hn, hm, fun a ha => by injection ha with ha; subst ha; rfl⟩

theorem two_reads (w : World) (x : UInt8) (t : TypeId) : Reads8 (w.alloc (.cells #[.int .u8 (x.toNat : Int), .int .u8 (x.toNat : Int)] t)) (some ⟨w.heap.size, 0, none⟩) 2 [x, x] := by
  have h := MemC.new w (b8 [x, x]) t
  exact h.mem8.reads
theorem take_pair {D : Dk} {k : Nat} {x : UInt8} (h : readB D k = List.replicate 128 x) : same8 ((readB D k).take 2) [x, x] = true := by
  rw [h]
  exact same8_iff.2 rfl
theorem lastL_cells (l : List (UInt8 × UInt8)) (k i : Nat) (hi : i < 16) : (b8 (lastL l k))[i]? = some (.int .u8 ((lastV l k i).toNat : Int)) := by
  unfold b8
  rw [List.getElem?_map, lastL_at l k i hi]
  rfl
theorem b8_set (l : List UInt8) (i : Nat) (x : UInt8) : (b8 l).set i (.int .u8 (x.toNat : Int)) = b8 (l.set i x) := by unfold b8; rw [List.map_set]

set_option maxRecDepth 100000 in
set_option maxHeartbeats 8000000 in
theorem last_in (A : Option Addr) (n c : Nat) (l0 : List (UInt8 × UInt8)) (fl : UInt8) (w : World) (m : Nat) (hl : l0.length = n) (hc : Cells w A (putcells l0)) (hn : n ≤ c) (hm : c ≤ maxLen) (e1 : m = min n 30) :
    Calls Try.prog 6 #[.slice A n c, .int .u8 (fl.toNat : Int)] w fun e w' => e = .returned (.bool true) ∧ Below w.heap.size w w' := by
  have t1 : min (n : Int) 30 = (m : Int) := by omega
  have hm30 : m ≤ 30 := by omega
  have i1 : (m : Int) ≤ (c : Int) := by omega
  have HL : Hid ((l0.take m).length = m) := Lib.hid (by rw [List.length_take]; omega)
  have HC := Lib.hid (cells_firsts hc m)
  generalize l0.take m = l at *
  unfold maxLen at hm
  obtain ⟨kk, hkk⟩ : ∃ kk, kk = fl.toNat % (m + 1) := ⟨_, rfl⟩
  have hkm : kk ≤ m := by rw [hkk]; have := Nat.mod_lt fl.toNat (show 0 < m + 1 by omega); omega
  have tm : (fl.toNat : Int).tmod ((m : Int) + 1) = (kk : Int) := by rw [Int.tmod_eq_emod_of_nonneg (by omega), hkk]; rfl
  have te : (fl.toNat : Int) % ((m : Int) + 1) = (kk : Int) := by rw [hkk]; rfl
  have wm : IntKind.i64.wrap ((m : Int) + 1) = (m : Int) + 1 := IntWalk.i64_in _ (by omega)
  have wk : IntKind.i64.wrap (kk : Int) = (kk : Int) := IntWalk.i64_in _ (by omega)
  have wf : IntKind.i64.wrap (fl.toNat : Int) = (fl.toNat : Int) := IntWalk.i64_in _ (by have := fl.toNat_lt; omega)
  have m0 : ¬ ((m : Int) + 1 = 0) := by omega
  clear hl hc e1 hkk
  go_enter Try.func6, Try.ntmps6
  go_wp2_with fail
  refine (after_any A m c l (kk : Int) _ HL.out HC.out (by omega)).mono ?_
  rintro e w2 ⟨p, q, rfl, hp, hq, hd, hb⟩
  have HLV := Lib.hid (afterK_live l (kk : Int) m (by omega))
  have HRD : Hid (∀ a, a < 16 → readB (afterK l (kk : Int) m) a = List.replicate 128 (lastV l m a)) := Lib.hid fun a ha => after_read l kk a ha m (by omega)
  have hfn : firmN kk m = kk := by unfold firmN; rw [if_pos hkm]
  have HBK : Hid (∀ a, a < 16 → (afterK l (kk : Int) m).blks.getD a [] = List.replicate 128 (lastV l kk a)) := Lib.hid fun a ha => by have := (after_blks l kk a ha m (by omega)).1; rwa [hfn] at this
  have HWT : Hid ((afterK l (kk : Int) m).waits.length = m - kk) := Lib.hid (by have := (after_blks l kk 0 (by omega) m (by omega)).2; rwa [hfn] at this)
  clear hfn
  generalize afterK l (kk : Int) m = E at *
  obtain ⟨cd, vd, hd⟩ := hd
  have D2 := Lib.hid hd
  have B2 := Lib.hid hb
  have LD : Hid (p < w2.heap.size ∧ q < w2.heap.size ∧ ∀ g, vd.ownBlock = some g → g < w2.heap.size) := Lib.hid ⟨hd.lt.1, hd.lt.2, fun g hg => (hd.waits.lt g hg).2⟩
  have HW2 : Hid (w.heap.size ≤ w2.heap.size) := Lib.hid B2.out.size
  clear hd hb hp hq tm te wm wf m0 t1 i1
  go_wp2_with fail
  refine (copy_any _ D2.out (fun b => w2.heap.size ≤ b) (fun b h => h)).mono ?_
  rintro e w3 ⟨p2, q2, rfl, hp2, hq2, hc, hb⟩
  obtain ⟨cc, vc, hc⟩ := hc
  have D3 := Lib.hid (D2.out.keep hb)
  have K3 := Lib.hid hc
  have B3 := Lib.hid (B2.out.trans (hb.mono B2.out.size))
  have LC : Hid (w2.heap.size ≤ p2 ∧ w2.heap.size ≤ q2 ∧ (∀ g, vc.ownBlock = some g → w2.heap.size ≤ g) ∧ p2 < w3.heap.size ∧ q2 < w3.heap.size ∧ ∀ g, vc.ownBlock = some g → g < w3.heap.size) := Lib.hid ⟨hp2, hq2, fun g hg => hc.fv g hg, hc.lt.1, hc.lt.2, fun g hg => (hc.waits.lt g hg).2⟩
  have HW3 : Hid (w2.heap.size ≤ w3.heap.size) := Lib.hid hb.size
  clear hc hb hp2 hq2 D2 B2
  go_wp2_with fail
  refine (copy_any _ D3.out (fun b => w3.heap.size ≤ b) (fun b h => h)).mono ?_
  rintro e w4 ⟨p3, q3, rfl, hp3, hq3, hc, hb⟩
  obtain ⟨ce, ve, hc⟩ := hc
  have D4 := Lib.hid (D3.out.keep hb)
  have K4 := Lib.hid (K3.out.keep hb)
  have J4 := Lib.hid hc
  have B4 := Lib.hid (B3.out.trans (hb.mono B3.out.size))
  have LE : Hid (w3.heap.size ≤ p3 ∧ w3.heap.size ≤ q3 ∧ (∀ g, ve.ownBlock = some g → w3.heap.size ≤ g) ∧ p3 < w4.heap.size ∧ q3 < w4.heap.size ∧ ∀ g, ve.ownBlock = some g → g < w4.heap.size) := Lib.hid ⟨hp3, hq3, fun g hg => hc.fv g hg, hc.lt.1, hc.lt.2, fun g hg => (hc.waits.lt g hg).2⟩
  have HW4 : Hid (w3.heap.size ≤ w4.heap.size) := Lib.hid hb.size
  obtain ⟨N2, hN2⟩ : ∃ N, N = w2.heap.size := ⟨_, rfl⟩
  obtain ⟨N3, hN3⟩ : ∃ N, N = w3.heap.size := ⟨_, rfl⟩
  obtain ⟨N4, hN4⟩ : ∃ N, N = w4.heap.size := ⟨_, rfl⟩
  rw [← hN2] at LD LC HW2 HW3
  rw [← hN3] at LC LE HW3 HW4
  rw [← hN4] at LE HW4
  have HN4 := Lib.hid hN4
  clear hc hb hp3 hq3 D3 K3 B3 hN2 hN3 hN4
  go_wp2_with fail
  go_loopw [9, 37] (fun o i wr => ∃ k : Nat, k ≤ m ∧ i = .int .i64 (k : Int) ∧ wr.ownsRow w4.heap.size 4 1 o k (kcells (List.replicate k true)) ∧ Below w4.heap.size w4 wr) (fun _ i _ => m - (intOf i).toNat)
  case atStart => exact ⟨0, Nat.zero_le _, rfl, ⟨by simp [kcells], .inl ⟨rfl, rfl⟩⟩, Below.refl _ _⟩
  case round =>
    obtain ⟨k, hk, rfl, hown, hb⟩ := hrel
    have HO := Lib.hid hown
    have HB := Lib.hid hb
    clear hown hb
    by_cases hlt : k < m
    · have k0 : (0 : Int) ≤ (k : Int) := by omega
      have k1 : (k : Int) < (m : Int) := by omega
      have kw : IntKind.i64.wrap ((k : Int) + 1) = (k : Int) + 1 := IntWalk.i64_in _ (by omega)
      go_wp2_with (at_builtin; refine wpList_appendC rfl _ _ 23 rfl w4.heap.size 4 (.bool false) 1 1 Try.underlying23 boolinfo rfl (by omega) _ k (kcells (List.replicate k true)) rfl (HO.out.alloc _) (some ⟨wr.heap.size, 0, none⟩) 1 1 (kcells [true]) rfl rfl (MemC.new wr _ 4).cells (kcells_one _) (by simp only [maxLen]; omega) (by omega) (by have := HB.out.size; simp; omega) ?_)
      intro v' w5 hown' hgrow hnil hblk
      have er : kcells (List.replicate k true) ++ kcells [true] = kcells (List.replicate (k + 1) true) := by rw [List.replicate_succ', kcells, kcells, kcells, ← List.map_append]
      rw [er] at hown'
      have b3 : Below w4.heap.size w4 w5 := (HB.out.alloc (by have := HB.out.size; omega) _).grown hgrow (by have := HB.out.size; simp; omega) (own_base HO.out)
      obtain ⟨g', cap', rfl⟩ := ownsRow_succ hown'
      have O3 := Lib.hid hown'
      have B3 := Lib.hid b3
      clear hown' hgrow hnil hblk b3 er
      go_wp2_with fail
      go_roundw
      case rel => exact ⟨k + 1, by omega, by go_num, O3.out, B3.out⟩
      case measure => simp [intOf]; omega
    · obtain rfl : m = k := by omega
      clear hlt hk
      have D5 := Lib.hid (D4.out.keep HB.out)
      have K5 := Lib.hid (K4.out.keep HB.out)
      have J5 := Lib.hid (J4.out.keep HB.out)
      have B5 := Lib.hid (B4.out.trans (HB.out.mono B4.out.size))
      obtain ⟨Ak, ck, rfl, hrK, hnck, hcmk, hAk⟩ := own_readsK HO.out
      have RK := Lib.hid hrK
      have HAK : Hid (∀ a, Ak = some a → N4 ≤ a.block) := Lib.hid fun a e => by have := own_base HO.out a.block (hAk a e); rw [HN4.out]; exact this
      have HW5 : Hid (N4 ≤ wr.heap.size) := Lib.hid (by rw [HN4.out]; exact HB.out.size)
      clear D4 K4 J4 B4 HB HO hrK hAk
      go_wp2_with fail
      obtain ⟨n2, hn2⟩ : ∃ N, N = wr.heap.size := ⟨_, rfl⟩
      refine (crash_any _ K5.out.tight Ak m ck (List.replicate m true) (-1) 0 (by simp) (by simp only [maxLen]; omega) RK.out (fun a e => by have := HAK.out a e; have := LC.out; have := HW4.out; omega)).mono ?_
      rintro e w6 ⟨rfl, hk6, ht6⟩
      obtain ⟨c6, v6, hk6⟩ := hk6
      have ld := LD.out
      have lc := LC.out
      have le' := LE.out
      have hw3 := HW3.out
      have hw4 := HW4.out
      have hw5 := HW5.out
      have ns6 := ht6.size
      have nt6 : ∀ b, b < wr.heap.size → (b < N2 ∨ N3 ≤ b) → ¬ Tight wr p2 q2 vc b := fun b hb hor h => by
        rcases h with h | h | h | h
        · omega
        · omega
        · have := lc.2.2.1 b h; have := lc.2.2.2.2.2 b h; omega
        · omega
      have D6 := Lib.hid (D5.out.turn ht6 (nt6 p (by omega) (by omega)) (nt6 q (by omega) (by omega)) (fun g hg => nt6 g (by have := ld.2.2 g hg; omega) (by have := ld.2.2 g hg; omega)))
      have J6 := Lib.hid (J5.out.turn ht6 (nt6 p3 (by omega) (by omega)) (nt6 q3 (by omega) (by omega)) (fun g hg => nt6 g (by have := le'.2.2.2.2.2 g hg; omega) (by have := le'.2.2.1 g hg; omega)))
      have hT2 : ∀ b, Tight wr p2 q2 vc b → N2 ≤ b ∧ (b < N3 ∨ wr.heap.size ≤ b) := fun b h => by
        rcases h with h | h | h | h
        · omega
        · omega
        · have := lc.2.2.1 b h; have := lc.2.2.2.2.2 b h; omega
        · omega
      have B6 := Lib.hid (B5.out.trans (ht6.below (B := w.heap.size) (fun b hb => by have := hT2 b hb; have := HW2.out; omega) B5.out.size))
      have K6 := Lib.hid hk6
      have LV6 : Hid (∀ g, v6.ownBlock = some g → (g < N3 ∨ wr.heap.size ≤ g) ∧ g < w6.heap.size) := Lib.hid fun g hg => ⟨(hT2 g (hk6.fv g hg)).2, (hk6.waits.lt g hg).2⟩
      clear hk6 ht6 nt6 D5 J5 B5 K5 hT2 RK HAK
      go_wp2_with fail
      refine (crash_any _ J6.out.tight none 0 0 [] (m : Int) 0 rfl (by simp [maxLen]) (Cells.nil _ _) (fun a e => by cases e)).mono ?_
      rintro e w7 ⟨rfl, hj7, ht7⟩
      have lv6 := LV6.out
      have hT3 : ∀ b, Tight w6 p3 q3 ve b → (N3 ≤ b ∧ b < N4) ∨ w6.heap.size ≤ b := fun b h => by
        rcases h with h | h | h | h
        · omega
        · omega
        · have := le'.2.2.1 b h; have := le'.2.2.2.2.2 b h; omega
        · omega
      have nt7 : ∀ b, b < w6.heap.size → (b < N3 ∨ N4 ≤ b) → ¬ Tight w6 p3 q3 ve b := fun b hb hor h => by
        have := hT3 b h
        omega
      have D7 := Lib.hid (D6.out.turn ht7 (nt7 p (by omega) (by omega)) (nt7 q (by omega) (by omega)) (fun g hg => nt7 g (by have := ld.2.2 g hg; omega) (by have := ld.2.2 g hg; omega)))
      have K7 := Lib.hid (K6.out.turn ht7 (nt7 p2 (by omega) (by omega)) (nt7 q2 (by omega) (by omega)) (fun g hg => nt7 g (lv6 g hg).2 (by have := (lv6 g hg).1; omega)))
      have B7 := Lib.hid (B6.out.trans (ht7.below (B := w.heap.size) (fun b hb => by have := hT3 b hb; have := HW2.out; have := B6.out.size; omega) B6.out.size))
      obtain ⟨c7, v7, hj7⟩ := hj7
      have J7 := Lib.hid hj7
      clear hj7 ht7 nt7 hT3 lv6 LV6 D6 J6 K6 B6 ld lc le' hw3 hw4 hw5 LD LC LE HW2 HW3 HW4 HW5 HN4 ns6 hn2 n2
      have HRA : Hid (∀ a, a < 16 → readB (crashed E (List.replicate m true) (-1) 0) a = List.replicate 128 (lastV l m a)) := Lib.hid fun a ha => by
        rw [crash_all HLV.out _ (fun i hi => by have := HLV.out.few; rw [List.getD_eq_getElem?_getD, List.getElem?_replicate, if_pos (by omega)]; rfl) a]
        exact HRD.out a ha
      have HRN : Hid (∀ a, a < 16 → readB (crashed E [] (m : Int) 0) a = List.replicate 128 (lastV l kk a)) := Lib.hid fun a ha => by
        rw [crash_none E (m : Int) a]
        exact HBK.out a ha
      have HLA := Lib.hid (crashed_live HLV.out (List.replicate m true) (-1) 0 (by omega))
      have HLN := Lib.hid (crashed_live HLV.out [] (m : Int) 0 (by omega))
      have eA : crashE 0 = 0 := rfl
      rw [eA]
      generalize crashed E (List.replicate m true) (-1) 0 = EA at *
      generalize crashed E [] (m : Int) 0 = EN at *
      clear eA
      go_upto_region 15 with fail
      obtain ⟨w8, hw8⟩ : ∃ W : World, W = (w7.alloc (.cells #[.int .u8 0, .int .u8 0, .int .u8 0, .int .u8 0, .int .u8 0, .int .u8 0, .int .u8 0, .int .u8 0, .int .u8 0, .int .u8 0, .int .u8 0, .int .u8 0, .int .u8 0, .int .u8 0, .int .u8 0, .int .u8 0] 63)).alloc (.cells #[.int .u8 0, .int .u8 0, .int .u8 0, .int .u8 0, .int .u8 0, .int .u8 0, .int .u8 0, .int .u8 0, .int .u8 0, .int .u8 0, .int .u8 0, .int .u8 0, .int .u8 0, .int .u8 0, .int .u8 0, .int .u8 0] 63) := ⟨_, rfl⟩
      have h71 : Below w7.heap.size w7 (w7.alloc (.cells #[.int .u8 0, .int .u8 0, .int .u8 0, .int .u8 0, .int .u8 0, .int .u8 0, .int .u8 0, .int .u8 0, .int .u8 0, .int .u8 0, .int .u8 0, .int .u8 0, .int .u8 0, .int .u8 0, .int .u8 0, .int .u8 0] 63)) := (Below.refl _ w7).alloc (Nat.le_refl _) _
      have hb : Below w7.heap.size w7 w8 := by rw [hw8]; exact h71.alloc h71.size _
      have ma0 : MemC (w7.alloc (.cells #[.int .u8 0, .int .u8 0, .int .u8 0, .int .u8 0, .int .u8 0, .int .u8 0, .int .u8 0, .int .u8 0, .int .u8 0, .int .u8 0, .int .u8 0, .int .u8 0, .int .u8 0, .int .u8 0, .int .u8 0, .int .u8 0] 63)) w7.heap.size 0 (b8 (lastL l 0)) := MemC.new w7 (b8 (List.replicate 16 0)) _
      have ma : MemC w8 w7.heap.size 0 (b8 (lastL l 0)) := by rw [hw8]; exact ma0.keep ((Below.refl _ _).alloc (Nat.le_refl _) _)
      have mb : MemC w8 (w7.heap.size + 1) 0 (b8 (lastL l 0)) := by
        have := MemC.new (w7.alloc (.cells #[.int .u8 0, .int .u8 0, .int .u8 0, .int .u8 0, .int .u8 0, .int .u8 0, .int .u8 0, .int .u8 0, .int .u8 0, .int .u8 0, .int .u8 0, .int .u8 0, .int .u8 0, .int .u8 0, .int .u8 0, .int .u8 0] 63)) (b8 (List.replicate 16 0)) 63
        rw [show (w7.alloc (.cells #[.int .u8 0, .int .u8 0, .int .u8 0, .int .u8 0, .int .u8 0, .int .u8 0, .int .u8 0, .int .u8 0, .int .u8 0, .int .u8 0, .int .u8 0, .int .u8 0, .int .u8 0, .int .u8 0, .int .u8 0, .int .u8 0] 63)).heap.size = w7.heap.size + 1 by simp] at this
        rw [hw8]; exact this
      have hs8 : w8.heap.size = w7.heap.size + 1 + 1 := by rw [hw8]; simp
      rw [← hw8]
      have D8 := Lib.hid (D7.out.keep hb)
      have K8 := Lib.hid (K7.out.keep hb)
      have J8 := Lib.hid (J7.out.keep hb)
      have B8 := Lib.hid (B7.out.trans (hb.mono B7.out.size))
      have LD8 : Hid (p < w7.heap.size ∧ q < w7.heap.size ∧ (∀ g, vd.ownBlock = some g → g < w7.heap.size) ∧ p2 < w7.heap.size ∧ q2 < w7.heap.size ∧ (∀ g, v6.ownBlock = some g → g < w7.heap.size) ∧ p3 < w7.heap.size ∧ q3 < w7.heap.size ∧ (∀ g, v7.ownBlock = some g → g < w7.heap.size)) := Lib.hid ⟨D7.out.lt.1, D7.out.lt.2, fun g hg => (D7.out.waits.lt g hg).2, K7.out.lt.1, K7.out.lt.2, fun g hg => (K7.out.waits.lt g hg).2, J7.out.lt.1, J7.out.lt.2, fun g hg => (J7.out.waits.lt g hg).2⟩
      have MA := Lib.hid ma
      have MB := Lib.hid mb
      have HB7 := Lib.hid B7.out.size
      obtain ⟨q10, hq10⟩ : ∃ y, y = w7.heap.size := ⟨_, rfl⟩
      rw [← hq10] at MA MB hs8 LD8 HB7 ⊢
      have HS8 := Lib.hid hs8
      clear hb ma mb ma0 h71 hw8 hs8 hq10 D7 K7 J7 B7
      go_wp2_with fail
      go_loopw [58] (fun i wr => ∃ k : Nat, k ≤ m ∧ i = .int .i64 (k : Int) ∧ Turn (fun b => b = q10 ∨ b = q10 + 1) w8 wr ∧ MemC wr q10 0 (b8 (lastL l k)) ∧ MemC wr (q10 + 1) 0 (b8 (lastL l (min k kk)))) (fun i _ => m - (intOf i).toNat)
      case atStart => exact ⟨0, Nat.zero_le _, rfl, Turn.refl _ _, MA.out, by rw [Nat.zero_min]; exact MB.out⟩
      case round =>
        obtain ⟨k, hk, rfl, ht, ha, hb⟩ := hrel
        have T9 := Lib.hid ht
        have A9 := Lib.hid ha
        have B9 := Lib.hid hb
        clear ht ha hb MA MB
        by_cases hlt : k < m
        · have k0 : (0 : Int) ≤ (k : Int) := by omega
          have k1 : (k : Int) < (m : Int) := by omega
          have kw : IntKind.i64.wrap ((k : Int) + 1) = (k : Int) + 1 := IntWalk.i64_in _ (by omega)
          have hkl : k < l.length := by have := HL.out; omega
          have BW := Lib.hid (B8.out.trans (T9.out.below (B := w.heap.size) (fun b hb => by have := HB7.out; omega) B8.out.size))
          have CX := Lib.hid (HC.out.keep BW.out)
          have HQ := Lib.hid (Nat.lt_of_lt_of_le (show q10 + 1 < w8.heap.size by have := HS8.out; omega) T9.out.size)
          obtain ⟨ab, ao, rfl, hcl⟩ := CX.out (by rw [putcells_length]; omega)
          have hp0 := hcl.cell (k * 2) (by rw [putcells_length]; omega)
          have hp1 := hcl.cell (k * 2 + 1) (by rw [putcells_length]; omega)
          obtain ⟨g0, g1⟩ := putcells_get l k (by omega)
          have hx0 : (putcells l)[k * 2]'(by rw [putcells_length]; omega) = .int .u8 (l[k].1.toNat : Int) := (List.getElem?_eq_some_iff.1 g0).2
          have hx1 : (putcells l)[k * 2 + 1]'(by rw [putcells_length]; omega) = .int .u8 (l[k].2.toNat : Int) := (List.getElem?_eq_some_iff.1 g1).2
          rw [hx0] at hp0
          rw [hx1, ← Nat.add_assoc] at hp1
          obtain ⟨x, hx⟩ : ∃ x, x = l[k]'(by omega) := ⟨_, rfl⟩
          rw [← hx] at hp0 hp1
          have HX := Lib.hid hx
          clear hx hx0 hx1 g0 g1 hcl
          go_upto_region 18 with fail
          obtain ⟨wy, hwy⟩ : ∃ W : World, W = wr.alloc (.cells #[.int .u8 (x.1.toNat : Int), .int .u8 (x.2.toNat : Int)] 36) := ⟨_, rfl⟩
          have hb : Below wr.heap.size wr wy := by rw [hwy]; exact (Below.refl _ wr).alloc (Nat.le_refl _) _
          have hx2 : MemC wy wr.heap.size 0 [.int .u8 (x.1.toNat : Int), .int .u8 (x.2.toNat : Int)] := by rw [hwy]; exact MemC.new wr [.int .u8 (x.1.toNat : Int), .int .u8 (x.2.toNat : Int)] _
          rw [← hwy]
          have TY := Lib.hid (T9.out.trans (Turn.of_below hb))
          have AY := Lib.hid (A9.out.keep hb)
          have BY := Lib.hid (B9.out.keep hb)
          have X := Lib.hid hx2
          obtain ⟨q8, hq8⟩ : ∃ y, y = wr.heap.size := ⟨_, rfl⟩
          rw [← hq8] at X HQ ⊢
          clear hb hx2 hwy hq8 T9 A9 B9 BW CX hp0 hp1
          obtain ⟨j, hj⟩ : ∃ j, j = x.1.toNat % 16 := ⟨_, rfl⟩
          have hj16 : j < 16 := by rw [hj]; exact Nat.mod_lt _ (by decide)
          have tx : (x.1.toNat : Int).tmod 16 = (j : Int) := by rw [Int.tmod_eq_emod_of_nonneg (by omega), hj]; rfl
          have tx2 : (x.1.toNat : Int) % 16 = (j : Int) := by rw [hj]; rfl
          have wu : IntKind.u8.wrap (j : Int) = (j : Int) := IntWalk.u8_in _ (by omega)
          have j0 : (0 : Int) ≤ (j : Int) := by omega
          have j1 : (j : Int) < 16 := by omega
          have HJ := Lib.hid hj
          obtain ⟨x0, _⟩ := X.out.get 0 _ rfl
          obtain ⟨x1, _⟩ := X.out.get 1 _ rfl
          obtain ⟨a0, fa0⟩ := AY.out.get j _ (lastL_cells l k j hj16)
          obtain ⟨b0, fb0⟩ := BY.out.get j _ (lastL_cells l (min k kk) j hj16)
          clear hj
          go_upto_region 19 with fail
          have hset : lastL l (k + 1) = (lastL l k).set j x.2 := by
            rw [← lastL_succ l k, show l.getD k (0, 0) = x by rw [HX.out, List.getD_eq_getElem?_getD, List.getElem?_eq_getElem hkl]; rfl, ← HJ.out]
          obtain ⟨wz, hwz⟩ : ∃ W : World, W = wy.setCell ⟨q10, j, none⟩ (.int .u8 (x.2.toNat : Int)) := ⟨_, rfl⟩
          have ht : Turn (fun b => b = q10) wy wz := by rw [hwz]; exact Turn.set (F := fun b => b = q10) wy rfl _
          have AZ : Hid (MemC wz q10 0 (b8 (lastL l (k + 1)))) := Lib.hid (by
            have := AY.out.setAt j (by rw [b8_length, lastL_length]; exact hj16) (.int .u8 (x.2.toNat : Int))
            rw [hset, ← b8_set, hwz]; exact this)
          have BZ := Lib.hid (BY.out.turn ht (by omega))
          have XZ := Lib.hid (X.out.turn ht (by have := HQ.out; omega))
          have TZ := Lib.hid (TY.out.trans (ht.mono fun b hb => .inl hb))
          have HSET := Lib.hid hset
          rw [← hwz]
          clear ht hwz hset AY BY X TY x0 x1 a0 b0 fa0 fb0
          obtain ⟨x0, _⟩ := XZ.out.get 0 _ rfl
          obtain ⟨x1, _⟩ := XZ.out.get 1 _ rfl
          obtain ⟨b0, fb0⟩ := BZ.out.get j _ (lastL_cells l (min k kk) j hj16)
          by_cases hlk : k < kk
          · have k2 : (k : Int) < (kk : Int) := by omega
            go_wp2_with fail
            go_roundw
            case rel =>
              refine ⟨k + 1, by omega, by go_num, TZ.out.trans (Turn.set (F := fun b => b = q10 ∨ b = q10 + 1) wz (.inr rfl) _), AZ.out.turn (Turn.set (F := fun b => b = q10 + 1) wz rfl _) (by omega), ?_⟩
              have := BZ.out.setAt j (by rw [b8_length, lastL_length]; exact hj16) (.int .u8 (x.2.toNat : Int))
              rw [show min (k + 1) kk = k + 1 by omega, HSET.out, ← b8_set]
              rw [show min k kk = k by omega] at this
              exact this
            case measure => simp [intOf]; omega
          · have k2 : ¬ ((k : Int) < (kk : Int)) := by omega
            go_wp2_with fail
            go_roundw
            case rel => exact ⟨k + 1, by omega, by go_num, TZ.out, AZ.out, by rw [show min (k + 1) kk = min k kk by omega]; exact BZ.out⟩
            case measure => simp [intOf]; omega
        · obtain rfl : m = k := by omega
          have lt8 := LD8.out
          have ntq : ∀ b, b < q10 → ¬ (fun b => b = q10 ∨ b = q10 + 1) b := fun b hb h => by rcases h with h | h <;> omega
          have D10 := Lib.hid (D8.out.turn T9.out (ntq p (by omega)) (ntq q (by omega)) (fun g hg => ntq g (lt8.2.2.1 g hg)))
          have K10 := Lib.hid (K8.out.turn T9.out (ntq p2 (by omega)) (ntq q2 (by omega)) (fun g hg => ntq g (lt8.2.2.2.2.2.1 g hg)))
          have J10 := Lib.hid (J8.out.turn T9.out (ntq p3 (by omega)) (ntq q3 (by omega)) (fun g hg => ntq g (lt8.2.2.2.2.2.2.2.2 g hg)))
          have B10 := Lib.hid (B8.out.trans (T9.out.below (B := w.heap.size) (fun b hb => by have := HB7.out; omega) B8.out.size))
          have BL := Lib.hid (show MemC wr (q10 + 1) 0 (b8 (lastL l kk)) by have := B9.out; rwa [show min m kk = kk by omega] at this)
          clear lt8 ntq D8 K8 J8 B8 B9 T9 LD8 HS8 HB7 hlt hk
          go_wp2_with fail
          go_loopw [79] (fun i wx => ∃ k : Nat, k ≤ 16 ∧ i = .int .i64 (k : Int) ∧ Below wr.heap.size wr wx) (fun i _ => 16 - (intOf i).toNat)
          case atStart => exact ⟨0, Nat.zero_le _, rfl, Below.refl _ _⟩
          case round =>
            obtain ⟨k, hk, rfl, hb⟩ := hrel
            have HB := Lib.hid hb
            have DY := Lib.hid (D10.out.keep hb)
            have KY := Lib.hid (K10.out.keep hb)
            have JY := Lib.hid (J10.out.keep hb)
            have AY := Lib.hid (A9.out.keep hb)
            have LY := Lib.hid (BL.out.keep hb)
            clear hb
            by_cases hlt : k < 16
            · have k0 : (0 : Int) ≤ (k : Int) := by omega
              have k1 : (k : Int) < 16 := by omega
              have kw : IntKind.i64.wrap ((k : Int) + 1) = (k : Int) + 1 := IntWalk.i64_in _ (by omega)
              go_upto_region 25 with fail
              obtain ⟨x, hx⟩ : ∃ x, x = lastV l m k := ⟨_, rfl⟩
              obtain ⟨y, hy⟩ : ∃ y, y = lastV l kk k := ⟨_, rfl⟩
              have HX := Lib.hid hx
              have HY := Lib.hid hy
              clear hx hy
              obtain ⟨W, hW⟩ : ∃ W : World, W = wr := ⟨_, rfl⟩
              rw [← hW] at HB DY KY JY AY LY ⊢
              clear hW
              have HS : Hid (∀ w', Below W.heap.size W w' → w'.cell? ⟨q10, k, none⟩ = some (.int .u8 (x.toNat : Int)) ∧ w'.cell? ⟨q10 + 1, k, none⟩ = some (.int .u8 (y.toNat : Int))) := Lib.hid fun w' hb => ⟨((AY.out.keep hb).get k _ (by rw [lastL_cells l m k hlt, HX.out])).1, ((LY.out.keep hb).get k _ (by rw [lastL_cells l kk k hlt, HY.out])).1⟩
              have BF := Lib.hid (Below.refl W.heap.size W).drew
              obtain ⟨wd, hwd⟩ : ∃ V : World, V = W.drew := ⟨_, rfl⟩
              rw [← hwd] at BF
              refine wp_region_held_drew (S := fun w' => w'.cell? ⟨q10, k, none⟩ = some (.int .u8 (x.toNat : Int)) ∧ w'.cell? ⟨q10 + 1, k, none⟩ = some (.int .u8 (y.toNat : Int))) (by kernel_rfl) (by rw [← hwd]; exact HS.out _ BF.out) (fun hHeld => ?_)
              rw [← hwd] at hHeld ⊢
              clear hwd
              refine wpAnyH_take (i := 0) (v := .pointer (some ⟨p, 0, none⟩)) rfl (by kernel_rfl) (by kernel_rfl) (by kernel_rfl) (fun _ _ _ h => h) (Or.inl ⟨by kernel_rfl, fun w _ => by go_simp⟩) hHeld ?_
              try simp only [Act.put, List.getElem_toArray, List.getElem_cons_succ, List.getElem_cons_zero, List.setIfInBounds_toArray, List.set_cons_zero, List.set_cons_succ]
              refine wpAnyH_take (i := 1) (v := .int .i64 (k : Int)) rfl (by kernel_rfl) (by kernel_rfl) (by kernel_rfl) (fun _ _ _ h => h) (Or.inl ⟨by kernel_rfl, fun w _ => by go_simp⟩) hHeld ?_
              try simp only [Act.put, List.getElem_toArray, List.getElem_cons_succ, List.getElem_cons_zero, List.setIfInBounds_toArray, List.set_cons_zero, List.set_cons_succ]
              refine wpAnyH_take (i := 2) (v := .int .i64 (k : Int)) rfl (by kernel_rfl) (by kernel_rfl) (by kernel_rfl) (fun _ _ _ h => h) (Or.inl ⟨by kernel_rfl, fun w _ => by go_simp⟩) hHeld ?_
              try simp only [Act.put, List.getElem_toArray, List.getElem_cons_succ, List.getElem_cons_zero, List.setIfInBounds_toArray, List.set_cons_zero, List.set_cons_succ]
              refine wpAnyH_take (i := 3) (v := .pointer (some ⟨q10, k, none⟩)) rfl (by kernel_rfl) (by kernel_rfl) (by kernel_rfl) (fun _ _ _ h => h) (Or.inl ⟨by kernel_rfl, fun w _ => by go_simp⟩) hHeld ?_
              try simp only [Act.put, List.getElem_toArray, List.getElem_cons_succ, List.getElem_cons_zero, List.setIfInBounds_toArray, List.set_cons_zero, List.set_cons_succ]
              refine wpAnyH_take (i := 4) (v := .int .u8 (x.toNat : Int)) rfl (by kernel_rfl) (by kernel_rfl) (by kernel_rfl) (fun _ _ _ h => h) (Or.inl ⟨by kernel_rfl, fun w h => by have hc := h.1; go_simp⟩) hHeld ?_
              try simp only [Act.put, List.getElem_toArray, List.getElem_cons_succ, List.getElem_cons_zero, List.setIfInBounds_toArray, List.set_cons_zero, List.set_cons_succ]
              refine wpAnyH_take (i := 5) (v := .int .i64 (k : Int)) rfl (by kernel_rfl) (by kernel_rfl) (by kernel_rfl) (fun _ _ _ h => h) (Or.inl ⟨by kernel_rfl, fun w _ => by go_simp⟩) hHeld ?_
              try simp only [Act.put, List.getElem_toArray, List.getElem_cons_succ, List.getElem_cons_zero, List.setIfInBounds_toArray, List.set_cons_zero, List.set_cons_succ]
              refine wpAnyH_take (i := 6) (v := .pointer (some ⟨q10, k, none⟩)) rfl (by kernel_rfl) (by kernel_rfl) (by kernel_rfl) (fun _ _ _ h => h) (Or.inl ⟨by kernel_rfl, fun w _ => by go_simp⟩) hHeld ?_
              try simp only [Act.put, List.getElem_toArray, List.getElem_cons_succ, List.getElem_cons_zero, List.setIfInBounds_toArray, List.set_cons_zero, List.set_cons_succ]
              refine wpAnyH_take (i := 7) (v := .int .u8 (x.toNat : Int)) rfl (by kernel_rfl) (by kernel_rfl) (by kernel_rfl) (fun _ _ _ h => h) (Or.inl ⟨by kernel_rfl, fun w h => by have hc := h.1; go_simp⟩) hHeld ?_
              try simp only [Act.put, List.getElem_toArray, List.getElem_cons_succ, List.getElem_cons_zero, List.setIfInBounds_toArray, List.set_cons_zero, List.set_cons_succ]
              refine wpAnyH_ready (rs := [8]) (by kernel_rfl) (by simp) ?_
              refine AllReadyH.cons rfl (fun K hK => ?_) AllReadyH.nil
              go_simp
              have hb1 : Below wd.heap.size wd _ := (Below.refl _ wd).alloc (Nat.le_refl _) (.cells #[.int .u8 (x.toNat : Int), .int .u8 (x.toNat : Int)] 5)
              have rd := two_reads wd x 5
              refine hK.out _ _ (HS.out _ (BF.out.trans (hb1.mono BF.out.size))) (fun hHeld => ?_)
              try simp only [Act.put, List.getElem_toArray, List.getElem_cons_succ, List.getElem_cons_zero, List.setIfInBounds_toArray, List.set_cons_zero, List.set_cons_succ]
              refine wpAnyH_ready (rs := [9]) (by kernel_rfl) (by simp) ?_
              refine AllReadyH.cons rfl (fun K hK => ?_) AllReadyH.nil
              go_simp
              go_at_call 27
              refine (says_yes _ ⟨_, _, DY.out.keep (BF.out.trans (hb1.mono BF.out.size))⟩ k HLV.out.up (by rw [HLV.out.n]; exact hlt) _ 2 2 [x, x] rd (by omega) true (take_pair (by rw [HRD.out k hlt, HX.out]))).mono ?_
              rintro e we ⟨rfl, hb2⟩
              have BF2 := Lib.hid ((BF.out.trans (hb1.mono BF.out.size)).trans (hb2.mono (BF.out.trans (hb1.mono BF.out.size)).size))
              refine hK.out _ _ (HS.out _ BF2.out) (fun hHeld => ?_)
              try simp only [Act.put, List.getElem_toArray, List.getElem_cons_succ, List.getElem_cons_zero, List.setIfInBounds_toArray, List.set_cons_zero, List.set_cons_succ]
              clear hb1 hb2 rd BF
              have BF := BF2
              clear BF2
              refine wpAnyH_take (i := 10) (v := .bool false) rfl (by kernel_rfl) (by kernel_rfl) (by kernel_rfl) (fun _ _ _ h => h) (Or.inl ⟨by kernel_rfl, fun w _ => by go_simp⟩) hHeld ?_
              try simp only [Act.put, List.getElem_toArray, List.getElem_cons_succ, List.getElem_cons_zero, List.setIfInBounds_toArray, List.set_cons_zero, List.set_cons_succ]
              refine wpAnyH_take (i := 11) (v := .bool false) rfl (by kernel_rfl) (by kernel_rfl) (by kernel_rfl) (fun _ _ _ h => h) (Or.inl ⟨by kernel_rfl, fun w _ => by go_simp⟩) hHeld ?_
              try simp only [Act.put, List.getElem_toArray, List.getElem_cons_succ, List.getElem_cons_zero, List.setIfInBounds_toArray, List.set_cons_zero, List.set_cons_succ]
              refine wpAnyH_take (i := 12) (v := .pointer (some ⟨p2, 0, none⟩)) rfl (by kernel_rfl) (by kernel_rfl) (by kernel_rfl) (fun _ _ _ h => h) (Or.inl ⟨by kernel_rfl, fun w _ => by go_simp⟩) hHeld ?_
              try simp only [Act.put, List.getElem_toArray, List.getElem_cons_succ, List.getElem_cons_zero, List.setIfInBounds_toArray, List.set_cons_zero, List.set_cons_succ]
              refine wpAnyH_take (i := 13) (v := .int .i64 (k : Int)) rfl (by kernel_rfl) (by kernel_rfl) (by kernel_rfl) (fun _ _ _ h => h) (Or.inl ⟨by kernel_rfl, fun w _ => by go_simp⟩) hHeld ?_
              try simp only [Act.put, List.getElem_toArray, List.getElem_cons_succ, List.getElem_cons_zero, List.setIfInBounds_toArray, List.set_cons_zero, List.set_cons_succ]
              refine wpAnyH_take (i := 14) (v := .int .i64 (k : Int)) rfl (by kernel_rfl) (by kernel_rfl) (by kernel_rfl) (fun _ _ _ h => h) (Or.inl ⟨by kernel_rfl, fun w _ => by go_simp⟩) hHeld ?_
              try simp only [Act.put, List.getElem_toArray, List.getElem_cons_succ, List.getElem_cons_zero, List.setIfInBounds_toArray, List.set_cons_zero, List.set_cons_succ]
              refine wpAnyH_take (i := 15) (v := .pointer (some ⟨q10, k, none⟩)) rfl (by kernel_rfl) (by kernel_rfl) (by kernel_rfl) (fun _ _ _ h => h) (Or.inl ⟨by kernel_rfl, fun w _ => by go_simp⟩) hHeld ?_
              try simp only [Act.put, List.getElem_toArray, List.getElem_cons_succ, List.getElem_cons_zero, List.setIfInBounds_toArray, List.set_cons_zero, List.set_cons_succ]
              refine wpAnyH_take (i := 16) (v := .int .u8 (x.toNat : Int)) rfl (by kernel_rfl) (by kernel_rfl) (by kernel_rfl) (fun _ _ _ h => h) (Or.inl ⟨by kernel_rfl, fun w h => by have hc := h.1; go_simp⟩) hHeld ?_
              try simp only [Act.put, List.getElem_toArray, List.getElem_cons_succ, List.getElem_cons_zero, List.setIfInBounds_toArray, List.set_cons_zero, List.set_cons_succ]
              refine wpAnyH_take (i := 17) (v := .int .i64 (k : Int)) rfl (by kernel_rfl) (by kernel_rfl) (by kernel_rfl) (fun _ _ _ h => h) (Or.inl ⟨by kernel_rfl, fun w _ => by go_simp⟩) hHeld ?_
              try simp only [Act.put, List.getElem_toArray, List.getElem_cons_succ, List.getElem_cons_zero, List.setIfInBounds_toArray, List.set_cons_zero, List.set_cons_succ]
              refine wpAnyH_take (i := 18) (v := .pointer (some ⟨q10, k, none⟩)) rfl (by kernel_rfl) (by kernel_rfl) (by kernel_rfl) (fun _ _ _ h => h) (Or.inl ⟨by kernel_rfl, fun w _ => by go_simp⟩) hHeld ?_
              try simp only [Act.put, List.getElem_toArray, List.getElem_cons_succ, List.getElem_cons_zero, List.setIfInBounds_toArray, List.set_cons_zero, List.set_cons_succ]
              refine wpAnyH_take (i := 19) (v := .int .u8 (x.toNat : Int)) rfl (by kernel_rfl) (by kernel_rfl) (by kernel_rfl) (fun _ _ _ h => h) (Or.inl ⟨by kernel_rfl, fun w h => by have hc := h.1; go_simp⟩) hHeld ?_
              try simp only [Act.put, List.getElem_toArray, List.getElem_cons_succ, List.getElem_cons_zero, List.setIfInBounds_toArray, List.set_cons_zero, List.set_cons_succ]
              refine wpAnyH_ready (rs := [20]) (by kernel_rfl) (by simp) ?_
              refine AllReadyH.cons rfl (fun K hK => ?_) AllReadyH.nil
              go_simp
              have hb1 : Below we.heap.size we _ := (Below.refl _ we).alloc (Nat.le_refl _) (.cells #[.int .u8 (x.toNat : Int), .int .u8 (x.toNat : Int)] 5)
              have rd := two_reads we x 5
              refine hK.out _ _ (HS.out _ (BF.out.trans (hb1.mono BF.out.size))) (fun hHeld => ?_)
              try simp only [Act.put, List.getElem_toArray, List.getElem_cons_succ, List.getElem_cons_zero, List.setIfInBounds_toArray, List.set_cons_zero, List.set_cons_succ]
              refine wpAnyH_ready (rs := [21]) (by kernel_rfl) (by simp) ?_
              refine AllReadyH.cons rfl (fun K hK => ?_) AllReadyH.nil
              go_simp
              go_at_call 27
              refine (says_yes _ ⟨_, _, KY.out.keep (BF.out.trans (hb1.mono BF.out.size))⟩ k HLA.out.up (by rw [HLA.out.n]; exact hlt) _ 2 2 [x, x] rd (by omega) true (take_pair (by rw [HRA.out k hlt, HX.out]))).mono ?_
              rintro e wf ⟨rfl, hb2⟩
              have BF2 := Lib.hid ((BF.out.trans (hb1.mono BF.out.size)).trans (hb2.mono (BF.out.trans (hb1.mono BF.out.size)).size))
              refine hK.out _ _ (HS.out _ BF2.out) (fun hHeld => ?_)
              try simp only [Act.put, List.getElem_toArray, List.getElem_cons_succ, List.getElem_cons_zero, List.setIfInBounds_toArray, List.set_cons_zero, List.set_cons_succ]
              clear hb1 hb2 rd BF
              have BF := BF2
              clear BF2
              refine wpAnyH_take (i := 22) (v := .bool false) rfl (by kernel_rfl) (by kernel_rfl) (by kernel_rfl) (fun _ _ _ h => h) (Or.inl ⟨by kernel_rfl, fun w _ => by go_simp⟩) hHeld ?_
              try simp only [Act.put, List.getElem_toArray, List.getElem_cons_succ, List.getElem_cons_zero, List.setIfInBounds_toArray, List.set_cons_zero, List.set_cons_succ]
              refine wpAnyH_take (i := 23) (v := .bool false) rfl (by kernel_rfl) (by kernel_rfl) (by kernel_rfl) (fun _ _ _ h => h) (Or.inl ⟨by kernel_rfl, fun w _ => by go_simp⟩) hHeld ?_
              try simp only [Act.put, List.getElem_toArray, List.getElem_cons_succ, List.getElem_cons_zero, List.setIfInBounds_toArray, List.set_cons_zero, List.set_cons_succ]
              refine wpAnyH_take (i := 24) (v := .bool false) rfl (by kernel_rfl) (by kernel_rfl) (by kernel_rfl) (fun _ _ _ h => h) (Or.inl ⟨by kernel_rfl, fun w _ => by go_simp⟩) hHeld ?_
              try simp only [Act.put, List.getElem_toArray, List.getElem_cons_succ, List.getElem_cons_zero, List.setIfInBounds_toArray, List.set_cons_zero, List.set_cons_succ]
              refine wpAnyH_take (i := 25) (v := .pointer (some ⟨p3, 0, none⟩)) rfl (by kernel_rfl) (by kernel_rfl) (by kernel_rfl) (fun _ _ _ h => h) (Or.inl ⟨by kernel_rfl, fun w _ => by go_simp⟩) hHeld ?_
              try simp only [Act.put, List.getElem_toArray, List.getElem_cons_succ, List.getElem_cons_zero, List.setIfInBounds_toArray, List.set_cons_zero, List.set_cons_succ]
              refine wpAnyH_take (i := 26) (v := .int .i64 (k : Int)) rfl (by kernel_rfl) (by kernel_rfl) (by kernel_rfl) (fun _ _ _ h => h) (Or.inl ⟨by kernel_rfl, fun w _ => by go_simp⟩) hHeld ?_
              try simp only [Act.put, List.getElem_toArray, List.getElem_cons_succ, List.getElem_cons_zero, List.setIfInBounds_toArray, List.set_cons_zero, List.set_cons_succ]
              refine wpAnyH_take (i := 27) (v := .int .i64 (k : Int)) rfl (by kernel_rfl) (by kernel_rfl) (by kernel_rfl) (fun _ _ _ h => h) (Or.inl ⟨by kernel_rfl, fun w _ => by go_simp⟩) hHeld ?_
              try simp only [Act.put, List.getElem_toArray, List.getElem_cons_succ, List.getElem_cons_zero, List.setIfInBounds_toArray, List.set_cons_zero, List.set_cons_succ]
              refine wpAnyH_take (i := 28) (v := .pointer (some ⟨q10 + 1, k, none⟩)) rfl (by kernel_rfl) (by kernel_rfl) (by kernel_rfl) (fun _ _ _ h => h) (Or.inl ⟨by kernel_rfl, fun w _ => by go_simp⟩) hHeld ?_
              try simp only [Act.put, List.getElem_toArray, List.getElem_cons_succ, List.getElem_cons_zero, List.setIfInBounds_toArray, List.set_cons_zero, List.set_cons_succ]
              refine wpAnyH_take (i := 29) (v := .int .u8 (y.toNat : Int)) rfl (by kernel_rfl) (by kernel_rfl) (by kernel_rfl) (fun _ _ _ h => h) (Or.inl ⟨by kernel_rfl, fun w h => by have hc := h.2; go_simp⟩) hHeld ?_
              try simp only [Act.put, List.getElem_toArray, List.getElem_cons_succ, List.getElem_cons_zero, List.setIfInBounds_toArray, List.set_cons_zero, List.set_cons_succ]
              refine wpAnyH_take (i := 30) (v := .int .i64 (k : Int)) rfl (by kernel_rfl) (by kernel_rfl) (by kernel_rfl) (fun _ _ _ h => h) (Or.inl ⟨by kernel_rfl, fun w _ => by go_simp⟩) hHeld ?_
              try simp only [Act.put, List.getElem_toArray, List.getElem_cons_succ, List.getElem_cons_zero, List.setIfInBounds_toArray, List.set_cons_zero, List.set_cons_succ]
              refine wpAnyH_take (i := 31) (v := .pointer (some ⟨q10 + 1, k, none⟩)) rfl (by kernel_rfl) (by kernel_rfl) (by kernel_rfl) (fun _ _ _ h => h) (Or.inl ⟨by kernel_rfl, fun w _ => by go_simp⟩) hHeld ?_
              try simp only [Act.put, List.getElem_toArray, List.getElem_cons_succ, List.getElem_cons_zero, List.setIfInBounds_toArray, List.set_cons_zero, List.set_cons_succ]
              refine wpAnyH_take (i := 32) (v := .int .u8 (y.toNat : Int)) rfl (by kernel_rfl) (by kernel_rfl) (by kernel_rfl) (fun _ _ _ h => h) (Or.inl ⟨by kernel_rfl, fun w h => by have hc := h.2; go_simp⟩) hHeld ?_
              try simp only [Act.put, List.getElem_toArray, List.getElem_cons_succ, List.getElem_cons_zero, List.setIfInBounds_toArray, List.set_cons_zero, List.set_cons_succ]
              refine wpAnyH_ready (rs := [33]) (by kernel_rfl) (by simp) ?_
              refine AllReadyH.cons rfl (fun K hK => ?_) AllReadyH.nil
              go_simp
              have hb1 : Below wf.heap.size wf _ := (Below.refl _ wf).alloc (Nat.le_refl _) (.cells #[.int .u8 (y.toNat : Int), .int .u8 (y.toNat : Int)] 5)
              have rd := two_reads wf y 5
              refine hK.out _ _ (HS.out _ (BF.out.trans (hb1.mono BF.out.size))) (fun hHeld => ?_)
              try simp only [Act.put, List.getElem_toArray, List.getElem_cons_succ, List.getElem_cons_zero, List.setIfInBounds_toArray, List.set_cons_zero, List.set_cons_succ]
              refine wpAnyH_ready (rs := [34]) (by kernel_rfl) (by simp) ?_
              refine AllReadyH.cons rfl (fun K hK => ?_) AllReadyH.nil
              go_simp
              go_at_call 27
              refine (says_yes _ ⟨_, _, JY.out.keep (BF.out.trans (hb1.mono BF.out.size))⟩ k HLN.out.up (by rw [HLN.out.n]; exact hlt) _ 2 2 [y, y] rd (by omega) true (take_pair (by rw [HRN.out k hlt, HY.out]))).mono ?_
              rintro e wg ⟨rfl, hb2⟩
              have BF2 := Lib.hid ((BF.out.trans (hb1.mono BF.out.size)).trans (hb2.mono (BF.out.trans (hb1.mono BF.out.size)).size))
              refine hK.out _ _ (HS.out _ BF2.out) (fun hHeld => ?_)
              try simp only [Act.put, List.getElem_toArray, List.getElem_cons_succ, List.getElem_cons_zero, List.setIfInBounds_toArray, List.set_cons_zero, List.set_cons_succ]
              clear hb1 hb2 rd BF
              have BF := BF2
              clear BF2
              refine wpAnyH_take (i := 35) (v := .bool false) rfl (by kernel_rfl) (by kernel_rfl) (by kernel_rfl) (fun _ _ _ h => h) (Or.inl ⟨by kernel_rfl, fun w _ => by go_simp⟩) hHeld ?_
              try simp only [Act.put, List.getElem_toArray, List.getElem_cons_succ, List.getElem_cons_zero, List.setIfInBounds_toArray, List.set_cons_zero, List.set_cons_succ]
              refine wpAnyH_take (i := 36) (v := .bool false) rfl (by kernel_rfl) (by kernel_rfl) (by kernel_rfl) (fun _ _ _ h => h) (Or.inl ⟨by kernel_rfl, fun w _ => by go_simp⟩) hHeld ?_
              try simp only [Act.put, List.getElem_toArray, List.getElem_cons_succ, List.getElem_cons_zero, List.setIfInBounds_toArray, List.set_cons_zero, List.set_cons_succ]
              refine wpAnyH_done (by kernel_rfl) ?_ _
              have HB2 := Lib.hid (HB.out.trans (BF.out.mono HB.out.size))
              clear hHeld HS BF HX HY
              go_wp2_with fail
              go_roundw
              case rel => exact ⟨k + 1, by omega, by go_num, HB2.out⟩
              case measure => simp [intOf]; omega
            · obtain rfl : k = 16 := by omega
              rw [show ((16 : Nat) : Int) = 16 from rfl]
              clear hlt hk
              go_wp2_with fail
              refine (cached_any _ ⟨_, _, DY.out⟩).mono ?_
              rintro e wk ⟨v, rfl, hown, hb⟩
              obtain ⟨Ak, ck, rfl, hrI, hnck, hcmk⟩ := own_readsI hown
              have HB2 := Lib.hid (HB.out.trans (hb.mono HB.out.size))
              have hwt := HWT.out
              have hq : ((E.waits.length : Int) == (m : Int) - (kk : Int)) = true := by simp; omega
              have wsub : IntKind.i64.wrap ((m : Int) - (kk : Int)) = (m : Int) - (kk : Int) := IntWalk.i64_in _ (by omega)
              clear hb hown hrI
              go_wp2_with fail
              refine (awake_any _).mono ?_
              rintro e wz ⟨rfl, hbz⟩
              have BF := Lib.hid (B10.out.trans ((HB2.out.trans (hbz.mono HB2.out.size)).mono B10.out.size))
              clear hbz
              go_wp2_with fail
              go_ret
              exact ⟨rfl, BF.out⟩

theorem lawLast (A : Option Addr) (n c : Nat) (l : List (UInt8 × UInt8)) (fl : UInt8) (w : World) (hl : l.length = n) (hc : Cells w A (putcells l)) (hn : n ≤ c) (hm : c ≤ maxLen) :
    Calls Try.prog 6 #[.slice A n c, .int .u8 (fl.toNat : Int)] w fun e w' => e = .returned (.bool true) ∧ Below w.heap.size w w' :=
  last_in A n c l fl w _ hl hc hn hm rfl

end Go.Proofs.Ytdnhlpddnbholaa
