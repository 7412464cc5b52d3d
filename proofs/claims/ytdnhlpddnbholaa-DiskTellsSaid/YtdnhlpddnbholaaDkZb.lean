/-
  The document's disk: Write.
-/
import Derived.Test.YtdnhlpddnbholaaDkZa
namespace Go.Proofs.Ytdnhlpddnbholaa
open Go.RowKit
set_option linter.unusedVariables false
set_option linter.unusedSimpArgs false
attribute [local go_sem ↓] Go.wp_at_zero Go.wp_at_succ

/-- An empty new row. -/
theorem own_empty (w : World) : (w.alloc (.cells #[] 97)).ownsRow w.heap.size 97 2 (.slice (some ⟨w.heap.size, 0, none⟩) 0 0) 0 (tcells []) :=
  ⟨rfl, .inr ⟨w.heap.size, 0, #[], rfl, Nat.le_refl _, heap_alloc_new w _, Nat.le_refl _, Nat.zero_le _, rfl, rfl⟩⟩
section
variable {F : Nat → Prop} {r : Nat} {D : Dk} {C : List (Nat × List UInt8)}

/-- What waits turns. -/
theorem RefIn.more {w w' : World} {Ac : Option Addr} {cc : Nat} {Aw Aw' : Option Addr} {wc wc' : Nat} {D' : Dk} (h : RefIn F w r Ac cc Aw wc D C) (hg : Below w.heap.size w w') (hA : Cells w' Aw' (tcells D'.waits)) (hA2 : ∀ a, Aw' = some a → w.heap.size ≤ a.block ∧ a.block < w'.heap.size) (hc : D'.waits.length ≤ wc') (hm : wc' ≤ maxLen) (hk : D'.Ok) (hb : D'.blks = D.blks)
    (hl : D'.left = D.left) (hd : D'.down = D.down) : RefIn F (w'.setCell ⟨r, 2, none⟩ (.slice Aw' D'.waits.length wc')) r Ac cc Aw' wc' D' C := by
  have hk2 := h.keep hg
  have hlt := h.lt
  have ht : Turn (fun b => b = r) w' (w'.setCell ⟨r, 2, none⟩ (.slice Aw' D'.waits.length wc')) := Turn.set (F := fun b => b = r) w' rfl _
  have hs : (w'.setCell ⟨r, 2, none⟩ (.slice Aw' D'.waits.length wc')).heap.size = w'.heap.size := by simp [World.setCell]
  refine ⟨hk, ?_, hk2.came.turn ht (fun a e => (h.fc a e).2.1), hA.turn ht (fun a e e2 => by have := hA2 a e; omega), h.ccap, h.ccm, hc, hm, h.cok, by rw [hb]; exact h.agree, h.few, h.fr, fun a e => by rw [hs]; exact hk2.fc a e, fun a e => ⟨h.new _ (hA2 a e).1, by have := hA2 a e; omega, by rw [hs]; exact (hA2 a e).2⟩, fun b hB => hk2.new b (by rw [hs] at hB; exact hB)⟩
  rw [hb, hl, hd]
  exact hk2.head.setAt 2 (by simp) (.slice Aw' D'.waits.length wc')

set_option maxRecDepth 20000 in
set_option maxHeartbeats 2000000 in
theorem writeref_no (w : World) (h : RefAt F w r D C) (a : Int) (l : List UInt8) (hn : D.down = true ∨ a < 0 ∨ (D.blks.length : Int) ≤ a ∨ l.length ≠ 128) : Calls Try.prog 34 #[.pointer (some ⟨r, 0, none⟩), .int .i64 a, .string ⟨l.toArray⟩] w fun e w' => e = .returned (.int .i64 (writeE D a l.length)) ∧ w = w' := by
  obtain ⟨Ac, cc, Aw, wc, h⟩ := h
  obtain ⟨h0, _⟩ := h.head.get 0 _ rfl
  obtain ⟨h4, _⟩ := h.head.get 4 _ rfl
  clear h
  unfold writeE
  cases hd : D.down
  · rw [hd] at h4
    have hn2 : a < 0 ∨ (D.blks.length : Int) ≤ a ∨ l.length ≠ 128 := by rcases hn with h | h; rw [hd] at h; cases h; exact h
    rw [if_neg (by decide), if_pos hn2]
    clear hn hd
    by_cases ha : a < 0
    · clear hn2
      go_enter Try.func34, Try.ntmps34
      go_wp2
      go_ret
      exact ⟨rfl, rfl⟩
    by_cases ha2 : (D.blks.length : Int) ≤ a
    · clear hn2
      go_enter Try.func34, Try.ntmps34
      go_wp2
      go_ret
      exact ⟨rfl, rfl⟩
    · have hl : ((l.length : Int) != 128) = true := by simp only [bne_iff_ne, ne_eq]; omega
      clear hn2
      go_enter Try.func34, Try.ntmps34
      go_wp2
      go_ret
      exact ⟨rfl, rfl⟩
  · rw [hd] at h4
    rw [if_pos rfl]
    clear hn hd
    go_enter Try.func34, Try.ntmps34
    go_wp2
    go_ret
    exact ⟨rfl, rfl⟩

set_option maxRecDepth 100000 in
set_option maxHeartbeats 4000000 in
theorem writeref_in (w : World) (h : RefAt F w r D C) (k : Nat) (l : List UInt8) (hd : D.down = false) (hk : k < D.blks.length) (hl : l.length = 128) (hfew : D.waits.length < 1000) :
    Calls Try.prog 34 #[.pointer (some ⟨r, 0, none⟩), .int .i64 (k : Int), .string ⟨l.toArray⟩] w fun e w' => e = .returned (.int .i64 (powerE D)) ∧ RefAt F w' r (written D (k : Int) l) C ∧ Turn (fun b => b = r) w w' := by
  have HT := Lib.hid (through_any w h)
  obtain ⟨Ac, cc, Aw, wc, h⟩ := h
  obtain ⟨h0, _⟩ := h.head.get 0 _ rfl
  obtain ⟨h4, _⟩ := h.head.get 4 _ rfl
  have HOK := Lib.hid (written_ok h.ok (k : Int) l hfew)
  have HWR : Hid (written D (k : Int) l = if D.left = 0 then powered D else { powered D with waits := D.waits ++ [(k, l)] }) := Lib.hid (by unfold written; rw [hd, if_neg (by decide), if_neg (by omega)]; rfl)
  rw [hd] at h4
  have a0 : ¬ (k : Int) < 0 := by omega
  have a1 : ¬ (D.blks.length : Int) ≤ (k : Int) := by omega
  have hlq : ((l.length : Int) != 128) = false := by rw [hl]; rfl
  clear h hd hk hl
  by_cases hz : D.left = 0
  · have hp : powerE D = 20 := by unfold powerE; rw [if_pos hz]
    have HW2 : Hid (written D (k : Int) l = powered D) := Lib.hid (by rw [HWR.out, if_pos hz])
    rw [hp] at HT ⊢
    clear hz hp
    go_enter Try.func34, Try.ntmps34
    go_wp2_with fail
    refine HT.out.mono ?_
    rintro e w1 ⟨rfl, hr, ht⟩
    have HR := Lib.hid hr
    have HTN := Lib.hid ht
    clear hr ht
    go_wp2_with fail
    go_ret
    exact ⟨rfl, by rw [HW2.out]; exact HR.out, HTN.out⟩
  · have hp : powerE D = 0 := by unfold powerE; rw [if_neg hz]
    have HW2 : Hid (written D (k : Int) l = { powered D with waits := D.waits ++ [(k, l)] }) := Lib.hid (by rw [HWR.out, if_neg hz])
    rw [hp] at HT ⊢
    clear hz hp
    go_enter Try.func34, Try.ntmps34
    go_wp2_with fail
    refine HT.out.mono ?_
    rintro e w1 ⟨rfl, hr, ht⟩
    obtain ⟨Ac, cc, Aw, wc, hr⟩ := hr
    have hpw := (powered_keeps D).2
    have HR := Lib.hid hr
    have HTN := Lib.hid ht
    clear hr ht h0 h4 a0 a1 hlq HT
    have ha1 : Below w1.heap.size w1 (w1.alloc (.cells #[] 97)) := (Below.refl _ w1).alloc (Nat.le_refl _) _
    have HA := Lib.hid ha1
    have hrl := HR.out.lt
    have h2 := ((HR.out.keep ha1).head.get 2 _ rfl).1
    clear ha1
    have hcw := (HR.out.keep HA.out).waits
    have hwc := HR.out.wcap
    have hwm := HR.out.wcm
    rw [hpw] at h2 hcw hwc
    have HPW := Lib.hid hpw
    have HCW := Lib.hid hcw
    clear hpw hcw
    go_wp2_with (at_builtin; refine wpList_appendC rfl _ _ 49 rfl w1.heap.size 97 (.agg #[.int .i64 0, .string ⟨#[]⟩]) 2 24 Try.underlying49 waitinfo rfl (by omega) _ 0 (tcells []) rfl (own_empty w1) Aw D.waits.length wc (tcells D.waits) rfl (tcells_length _) HCW.out (tcell_oneCell _) (by simp only [maxLen]; omega) (by omega) (by simp) ?_)
    intro v1 w2 hown1 hgrow1 _ hblk1
    rw [show tcells [] ++ tcells D.waits = tcells D.waits from rfl] at hown1
    have hb2 : Below w1.heap.size w1 w2 := HA.out.grown hgrow1 HA.out.size (fun g hg => by simp [Value.ownBlock] at hg; omega)
    have hsz2 := hgrow1.size
    have O2 := Lib.hid hown1
    have B2 := Lib.hid hb2
    clear hown1 hgrow1 hblk1 hb2 hsz2 h2
    go_wp2_with (at_builtin; refine wpList_appendC rfl _ _ 49 rfl w1.heap.size 97 (.agg #[.int .i64 0, .string ⟨#[]⟩]) 2 24 Try.underlying49 waitinfo rfl (by omega) _ D.waits.length (tcells D.waits) rfl (O2.out.alloc _) (some ⟨w2.heap.size, 0, none⟩) 1 1 (tcells [(k, l)]) rfl rfl (MemC.new w2 _ 97).cells (tcell_oneCell _) (by simp only [maxLen]; omega) (by omega) (by have := B2.out.size; simp; omega) ?_)
    intro v2 w3 hown2 hgrow2 _ hblk2
    have ht2 : tcells D.waits ++ tcells [(k, l)] = tcells (D.waits ++ [(k, l)]) := by rw [tcells_append]
    rw [ht2] at hown2
    have hb3 : Below w1.heap.size w1 w3 := (B2.out.alloc (by have := B2.out.size; omega) _).grown hgrow2 (by have := B2.out.size; simp; omega) (own_base O2.out)
    obtain ⟨A3, c3, rfl, hl3, hc3, hn3, hm3, ha3⟩ := own_readsT hown2
    have B3 := Lib.hid hb3
    have C3 := Lib.hid hc3
    have HA3 := Lib.hid ha3
    have HR3 := Lib.hid (HR.out.keep hb3)
    clear hown2 hgrow2 hblk2 hb3 hc3 ha3 ht2 O2 B2
    obtain ⟨g2, f2⟩ := HR3.out.head.get 2 _ rfl
    go_wp2_with fail
    go_ret
    have hok := HOK.out
    rw [HW2.out] at hok ⊢
    have hfin := HR.out.more (D' := { powered D with waits := D.waits ++ [(k, l)] }) B3.out C3.out HA3.out (by rw [hl3]; exact hn3) hm3 hok rfl rfl rfl
    have hls : (D.waits ++ [(k, l)]).length = D.waits.length + 1 := by simp
    simp only [hls] at hfin
    exact ⟨rfl, ⟨_, _, _, _, hfin⟩, (HTN.out.trans (Turn.of_below B3.out)).trans (Turn.set (F := fun b => b = r) w3 rfl _)⟩

theorem writeref_any (w : World) (h : RefAt F w r D C) (a : Int) (l : List UInt8) (hfew : D.waits.length < 1000) :
    Calls Try.prog 34 #[.pointer (some ⟨r, 0, none⟩), .int .i64 a, .string ⟨l.toArray⟩] w fun e w' => e = .returned (.int .i64 (writeE D a l.length)) ∧ RefAt F w' r (written D a l) C ∧ Turn (fun b => b = r) w w' := by
  by_cases hn : D.down = true ∨ a < 0 ∨ (D.blks.length : Int) ≤ a ∨ l.length ≠ 128
  · have e : written D a l = D := by
      unfold written
      split
      · rfl
      · split
        · rfl
        · rename_i h1 h2
          exact absurd hn (by rintro (h | h); exact h1 h; exact h2 h)
    rw [e]
    refine (writeref_no w h a l hn).mono ?_
    rintro _ w' ⟨rfl, rfl⟩
    exact ⟨rfl, h, Turn.refl _ _⟩
  · obtain ⟨k, rfl⟩ : ∃ k : Nat, a = (k : Int) := ⟨a.toNat, by omega⟩
    have hd : D.down = false := by cases h : D.down; rfl; exact absurd (.inl h) hn
    have e2 : writeE D (k : Int) l.length = powerE D := by unfold writeE; rw [hd, if_neg (by decide), if_neg (by omega)]
    rw [e2]
    exact writeref_in w h k l hd (by omega) (by omega) hfew
end

end Go.Proofs.Ytdnhlpddnbholaa
