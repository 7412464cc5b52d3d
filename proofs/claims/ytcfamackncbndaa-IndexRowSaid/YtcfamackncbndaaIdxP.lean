/-
  IndexRow: the walk.
-/
import Derived.Test.YtcfamackncbndaaIdxO
namespace Go.Proofs.Ytcfamackncbndaa
open Go.RowKit
set_option linter.unusedVariables false

theorem s22info : (Try.prog.info? 22).map (fun i => (i.zero, i.size, i.bytes)) = some (some (.slice none 0 0), 1, 24) := by kernel_rfl

theorem own_below {w w' : World} {base e s n : Nat} {v : Value} {xs : List Value} (h : w.ownsRow base e s v n xs) (hb : Below w.heap.size w w') : w'.ownsRow base e s v n xs := by
  refine ⟨h.1, ?_⟩
  rcases h.2 with h | ⟨g, cap, cur, e1, hg, hh, r⟩
  · exact .inl h
  · exact .inr ⟨g, cap, cur, e1, hg, (hb.block g (Array.getElem?_eq_some_iff.1 hh).1).trans hh, r⟩

theorem take_chunk (l : List UInt16) (q : Nat) : l.take (61 * q) ++ chunk l q = l.take (61 * (q + 1)) := by
  unfold chunk
  rw [show 61 * (q + 1) = 61 * q + 61 by omega, List.take_add]

set_option maxHeartbeats 2000000 in
set_option maxRecDepth 100000 in
theorem row_in (A : Option Addr) (n c : Nat) (l : List UInt16) (w : World) (h : ReadsW w A n l) (hn : n ≤ 400) :
    Calls Try.prog 7 #[.slice A n c, .bool false] w fun e w' => e = .returned (.bool true) ∧ Below w.heap.size w w' := by
  obtain ⟨i0, hi, hz0, hz1, hz2⟩ := info_parts s22info
  have hl := Lib.hid h.1
  have HL := Lib.hid h; clear h
  go_enter Try.func7, Try.ntmps7
  go_wp2_with fail
  refine (pages_any (n : Int) _ (by omega) (by omega)).mono ?_
  rintro e w' ⟨rfl, rfl⟩
  obtain ⟨Q, hQ, hQ7⟩ : ∃ Q : Nat, pagesOf (n : Int) = (Q : Int) ∧ Q ≤ 7 := by
    have h1 := pagesOf_bounds n (by omega)
    refine ⟨(pagesOf (n : Int)).toNat, by omega, ?_⟩
    unfold pagesOf
    split <;> omega
  have hQn : (∀ r, r < Q → 61 * r < n) ∧ n ≤ 61 * Q := by
    unfold pagesOf at hQ
    split at hQ
    · constructor
      · intro r hr; omega
      · omega
    · constructor
      · intro r hr; omega
      · omega
  rw [hQ]
  clear hQ
  have HQN := Lib.hid hQn; clear hQn
  go_wp2_with (at_make; refine wpList_make_full _ rfl _ _ 45 rfl w.heap.size 22 i0 (.slice none 0 0) 1 Try.underlying45 hi hz0 hz1 .i64 .i64 (Q : Int) (Q : Int) Q rfl rfl rfl rfl (by rw [hz2]; omega) (by simp only [maxLen]; omega) (Nat.le_refl _) ?_)
  intro w1 hown hgrow
  have hnil : ∀ r, r < Q → w1.cell? ⟨w.heap.size, r, none⟩ = some (.slice none 0 0) := fun r hr => by
    rw [hown.cellAt r (by omega)]
    rw [toList_madeCells_one, List.getElem?_replicate, if_pos hr]
  have hfz : ∀ r, w1.frozen? ⟨w.heap.size, r, none⟩ = false := fun r => hown.frozenAt r
  have hlt1 : w.heap.size < w1.heap.size := (hown.lt _ rfl).2
  have hb1 : Below w.heap.size w w1 := (Below.refl _ _).grown hgrow (Nat.le_refl _) (by intro k hk; cases hk)
  have hra : RowsAt w1 w.heap.size Q 0 w1.heap.size l := ⟨hlt1, Nat.le_refl _, fun r _ => hfz r, fun r _ hr => absurd hr (by unfold curOf; omega), fun h => absurd h (by omega), fun r hr _ => hnil r hr⟩
  have HRA := Lib.hid hra
  have HB1 := Lib.hid hb1
  have HL1 := Lib.hid (HL.out.keep hb1)
  clear hnil hfz hb1 hra hown hgrow hi hz0 hz1 hz2 i0
  go_wp2_with fail
  go_loopw [29] (fun i wr => ∃ k M : Nat, k ≤ n ∧ i = .int .i64 k ∧ RowsAt wr w.heap.size Q k M l ∧ Below w.heap.size w wr) (fun i _ => n - (intOf i).toNat)
  case atStart => exact ⟨0, _, Nat.zero_le _, rfl, HRA.out, HB1.out⟩
  case round =>
    clear HRA HB1
    obtain ⟨k, M, hk, rfl, hrows, hb⟩ := hrel
    have HB := Lib.hid hb; clear hb
    have HRows := Lib.hid hrows; clear hrows
    have HLr := Lib.hid (HL.out.keep HB.out)
    by_cases hlt : k < n
    · have hpQ : k / 61 < Q := by have := HQN.out.2; omega
      obtain ⟨M', v, hrd⟩ := HRows.out.ready (by have := hl.out; omega) hpQ
      obtain ⟨A2, c2, rfl, hr2, hnc2, hcm2, hob⟩ := own_readsW hrd.own
      have HRd := Lib.hid hrd; clear hrd
      obtain ⟨b, o, rfl, hbl, hc⟩ := HLr.out.get (k := k) (by have := hl.out; omega)
      obtain ⟨p, hp⟩ : ∃ p, p = k / 61 := ⟨_, rfl⟩
      have hcell := HRd.out.cell
      have hfree := HRd.out.free (k / 61) hpQ
      have eP : placeP (k : Int) = (p : Int) := by rw [placeP_nat]; omega
      have eI : placeI (k : Int) = ((k - 61 * p : Nat) : Int) := by rw [placeI_nat]; omega
      rw [← hp] at hcell hfree hpQ
      have HP := Lib.hid hp
      rw [← hp] at HRd
      clear hp
      have q1 : (p : Int) < (Q : Int) := by omega
      have q2 : ¬ (Q : Int) ≤ (p : Int) := by omega
      go_wp2_with fail
      refine (place_any (k : Int) _ (by omega) (by omega)).mono ?_
      rintro e w' ⟨rfl, rfl⟩
      rw [eP, eI]
      clear eP eI
      go_wp2_with (at_builtin; refine wpList_appendC rfl _ _ 22 rfl M' 43 (.int .u16 0) 1 2 Try.underlying22 u16info rfl (by omega) (.slice A2 (k - 61 * p) c2) (k - 61 * (k / 61)) (wcells ((l.take k).drop (61 * (k / 61)))) rfl (HRd.out.own.alloc _) (some ⟨wr.heap.size, 0, none⟩) 1 1 [.int .u16 ((l[k]'(by have := hl.out; omega)).toNat : Int)] rfl rfl (MemC.new wr [.int .u16 ((l[k]'(by have := hl.out; omega)).toNat : Int)] 43).cells (by intro u hu; rw [List.mem_singleton.1 hu]; rfl) (by simp only [maxLen]; omega) (by omega) (by have := HRd.out.mw; simp; omega) ?_)
      intro v' w3 hown hgrow hnil hat
      have hb3 : Below M' wr w3 := ((Below.refl M' wr).alloc HRd.out.mw _).grown hgrow (by have := HRd.out.mw; simp; omega) (fun q hq => (HRd.out.own.lt q hq).1)
      have HN := Lib.hid (HRd.out.next (by have := hl.out; omega) (by rw [← HP.out]; exact hpQ) hb3 hown)
      obtain ⟨g', cap', rfl⟩ := ownsRow_succ hown
      have c3 := (hb3.cell (p := ⟨w.heap.size, p, none⟩) HRd.out.gl).trans hcell
      have f3 := (hb3.frozen (p := ⟨w.heap.size, p, none⟩) HRd.out.gl).trans hfree
      rw [← HP.out] at HN
      have HB3 := Lib.hid (HB.out.trans (hb3.mono (Nat.le_of_lt HRd.out.gl)))
      clear hown hgrow hnil hat hb3 hcell hfree
      go_wp2_with fail
      go_roundw
      case rel => exact ⟨k + 1, M', by omega, by go_num, (by have h := HN.out; rw [HP.out] at h; rw [HP.out]; exact h), HB3.out.setCell (p := ⟨w.heap.size, p, none⟩) (Nat.le_refl _) _⟩
      case measure => simp [intOf]; omega
    · obtain rfl : k = n := by omega
      have hr : RowsAt wr w.heap.size Q l.length M l := by rw [hl.out]; exact HRows.out
      have hall := hr.all (by rw [hl.out]; exact HQN.out.1) (by rw [hl.out]; exact HQN.out.2)
      have hGs : w.heap.size < wr.heap.size := Nat.lt_of_lt_of_le hr.gl hr.mw
      have HALL := Lib.hid hall
      clear hr hall HRows
      generalize wr = w4 at *
      go_wp2_with fail
      go_loopw [11, 69] (fun a i wr => ∃ q : Nat, q ≤ Q ∧ i = .int .i64 q ∧ wr.ownsRow w4.heap.size 43 1 a (l.take (61 * q)).length (wcells (l.take (61 * q))) ∧ Below w4.heap.size w4 wr) (fun _ i _ => Q - (intOf i).toNat)
      case atStart => exact ⟨0, Nat.zero_le _, rfl, by simpa [wcells] using World.ownsRow_nil w4 w4.heap.size 43 1, Below.refl _ _⟩
      case round =>
        obtain ⟨q, hq, rfl, hown, hb⟩ := hrel
        have HO := Lib.hid hown; clear hown
        have HB5 := Lib.hid hb; clear hb
        by_cases hltq : q < Q
        · obtain ⟨A5, m5, c5, hcell, hrd, hmc, hm0, hm61⟩ := HALL.out q hltq
          have hcell5 := (HB5.out.cell (p := ⟨w.heap.size, q, none⟩) hGs).trans hcell
          have HRd := Lib.hid (hrd.keep HB5.out)
          clear hcell hrd
          have q1 : (q : Int) < (Q : Int) := by omega
          have hpl := pageOf_length 4 (ibody (chunk l q)) (by rw [ibody_length]; have := HRd.out.1; omega)
          have hid := idx_of_page 4 (chunk l q) (by decide) (by have := HRd.out.1; omega)
          have HPL := Lib.hid hpl; clear hpl
          have HID := Lib.hid hid; clear hid
          go_wp2_with fail
          refine (encode_right A5 m5 c5 4 (chunk l q) _ HRd.out (by decide) hm61).mono ?_
          rintro e w6 ⟨v, rfl, hF⟩
          obtain ⟨g6, d6, rfl, hg6, hd6, hdm6, hM6, hb6⟩ := hF.open_ HPL.out
          have M6 := Lib.hid hM6.reads
          have HB6 := Lib.hid hb6
          clear hF hM6 hb6
          generalize pageOf 4 (ibody (chunk l q)) = pg at *
          go_wp2_with fail
          refine (decode_own _ 128 d6 4 pg _ M6.out (by simp only [maxLen]; omega) hd6 HID.out.1).mono ?_
          rintro e w7 ⟨v, rfl, N, hN, hown7, _, hb7⟩
          rw [HID.out.2, HRd.out.1] at hown7
          obtain ⟨A7, c7, rfl, h7, _, _, _⟩ := own_readsW hown7
          have R7 := Lib.hid h7
          have HB7 := Lib.hid (HB6.out.trans (hb7.mono HB6.out.size))
          clear hown7 h7 hb7
          have hz : ((m5 : Int) == 0) = false := by simp; omega
          have hq7 : q ≤ 6 := by omega
          have hlq : (l.take (61 * q)).length ≤ 400 := by simp; have := hl.out; omega
          go_wp2_with (at_builtin; refine wpList_appendC rfl _ _ 22 rfl w4.heap.size 43 (.int .u16 0) 1 2 Try.underlying22 u16info rfl (by omega) u11 (l.take (61 * q)).length (wcells (l.take (61 * q))) rfl (own_below HO.out HB7.out) A7 m5 c7 (wcells (chunk l q)) rfl (by rw [wcells_length, HRd.out.1]; omega) R7.out.2 (wcells_one _) (by simp only [maxLen]; omega) (by omega) (by have := HB5.out.size; have := HB7.out.size; omega) ?_)
          intro v' w8 hown hgrow hnil hat
          have hown8 : w8.ownsRow w4.heap.size 43 1 v' (l.take (61 * (q + 1))).length (wcells (l.take (61 * (q + 1)))) := by
            rw [← take_chunk, wcells_append, List.length_append, HRd.out.1, List.length_take]
            exact hown
          have hb8 : Below w4.heap.size w4 w8 := (HB5.out.trans (HB7.out.mono HB5.out.size)).grown hgrow (Nat.le_trans HB5.out.size HB7.out.size) (fun x hx => ((own_below HO.out HB7.out).lt x hx).1)
          have HO8 := Lib.hid hown8
          have HB8 := Lib.hid hb8
          clear hown hown8 hgrow hnil hat hb8
          go_wp2_with fail
          go_roundw
          case rel => exact ⟨q + 1, by omega, by go_num, HO8.out, HB8.out⟩
          case measure => simp [intOf]; omega
        · obtain rfl : q = Q := by omega
          have hlt : l.take (61 * q) = l := List.take_of_length_le (by rw [hl.out]; exact HQN.out.2)
          rw [hlt, hl.out] at HO
          obtain ⟨A9, c9, rfl, h9, _, _, _⟩ := own_readsW HO.out
          have R9 := Lib.hid h9
          have HBW := Lib.hid (HB.out.trans (HB5.out.mono HB.out.size))
          have HL9 := Lib.hid (HL.out.keep HBW.out)
          clear h9 HO
          go_wp2_with fail
          refine (eqwords_any _ _ k k c9 c _ _ _ R9.out HL9.out (by simp only [maxLen]; omega) (by simp only [maxLen]; omega)).mono ?_
          rintro e w9 ⟨rfl, hqq⟩
          rw [show sameW l l = true from sameW_iff.2 rfl]
          have HB9 := Lib.hid (HBW.out.trans (hqq.below.mono HBW.out.size))
          clear hqq
          go_wp2_with fail
          refine (awake_any _).mono ?_
          rintro e w' ⟨rfl, hb⟩
          have HB10 := Lib.hid (HB9.out.trans (hb.mono HB9.out.size)); clear hb
          go_wp2_with fail
          go_ret
          exact ⟨rfl, HB10.out⟩

end Go.Proofs.Ytcfamackncbndaa
