/-
  The document's disk in memory, beside the program's own: what came through, what waits, as texts.
-/
import Derived.Test.YtdnhlpddnbholaaDkV
import Derived.Laws.Strings2
import Derived.Laws.Concat
namespace Go.Proofs.Ytdnhlpddnbholaa
open Go.RowKit
set_option linter.unusedVariables false
set_option linter.unusedSimpArgs false

/-- What stands there: the last that came of a block; noughts, where none did. -/
def standsL (C : List (Nat × List UInt8)) (a : Nat) : List UInt8 := match lastK C a C.length with | some i => (C.getD i nW).2 | none => List.replicate 128 0
theorem standsL_snoc (C : List (Nat × List UInt8)) (x : Nat × List UInt8) (a : Nat) : standsL (C ++ [x]) a = if x.1 = a then x.2 else standsL C a := by
  unfold standsL
  rw [lastK_snoc]
  by_cases e : x.1 = a
  · rw [if_pos (by omega), if_pos e]
    simp [List.getD]
  · rw [if_neg (by omega), if_neg e]
    cases h : lastK C a C.length with
    | none => rfl
    | some i =>
      have hi := (lastK_some h).1
      simp only
      rw [List.getD_eq_getElem?_getD, List.getElem?_append_left hi, ← List.getD_eq_getElem?_getD]
theorem standsL_length {C : List (Nat × List UInt8)} (h : ∀ x ∈ C, x.2.length = 128) (a : Nat) : (standsL C a).length = 128 := by
  unfold standsL
  cases e : lastK C a C.length with
  | none => simp
  | some i =>
    have hi := (lastK_some e).1
    simp only
    rw [List.getD_eq_getElem?_getD, List.getElem?_eq_getElem hi]
    exact h _ (List.getElem_mem _)

/-- A write's cells, the bytes as a text. -/
def tcell (x : Nat × List UInt8) : List Value := [.int .i64 (x.1 : Int), .string ⟨x.2.toArray⟩]
def tcells (l : List (Nat × List UInt8)) : List Value := l.flatMap tcell
theorem tcells_append (l m : List (Nat × List UInt8)) : tcells (l ++ m) = tcells l ++ tcells m := by simp [tcells]
theorem tcells_one (x : Nat × List UInt8) : tcells [x] = tcell x := by simp [tcells]
theorem tcells_length (l : List (Nat × List UInt8)) : (tcells l).length = l.length * 2 := by
  induction l with
  | nil => rfl
  | cons x l ih => unfold tcells at ih ⊢; rw [List.flatMap_cons, List.length_append, ih]; simp [tcell]; omega
theorem tcells_get : ∀ (l : List (Nat × List UInt8)) (i : Nat) (h : i < l.length), (tcells l)[i * 2]? = some (.int .i64 ((l.getD i nW).1 : Int)) ∧ (tcells l)[i * 2 + 1]? = some (.string ⟨(l.getD i nW).2.toArray⟩)
  | [], i, h => by simp at h
  | x :: l, 0, _ => ⟨rfl, rfl⟩
  | x :: l, i + 1, h => by
    have ih := tcells_get l i (by simpa using h)
    have e : tcells (x :: l) = .int .i64 (x.1 : Int) :: .string ⟨x.2.toArray⟩ :: tcells l := rfl
    rw [e, List.getD_cons_succ]
    exact ⟨by rw [show (i + 1) * 2 = i * 2 + 1 + 1 by omega, List.getElem?_cons_succ, List.getElem?_cons_succ]; exact ih.1, by rw [show (i + 1) * 2 + 1 = i * 2 + 1 + 1 + 1 by omega, List.getElem?_cons_succ, List.getElem?_cons_succ]; exact ih.2⟩
theorem tcell_oneCell (l : List (Nat × List UInt8)) : ∀ u ∈ tcells l, u.oneCell' = true := by
  intro u hu
  obtain ⟨x, _, hx⟩ := List.mem_flatMap.1 hu
  simp only [tcell, List.mem_cons, List.not_mem_nil, or_false] at hx
  rcases hx with rfl | rfl <;> rfl
theorem waitinfo : (Try.prog.info? 97).map (fun i => (i.zero, i.size, i.bytes)) = some (some (.agg #[.int .i64 0, .string ⟨#[]⟩]), 2, 24) := by kernel_rfl
/-- The k-th write of a slice that reads as l. -/
theorem Cells.wait {w : World} {A : Option Addr} {l : List (Nat × List UInt8)} (h : Cells w A (tcells l)) {k : Nat} (hk : k < l.length) : ∃ b o, A = some ⟨b, o, none⟩ ∧ b < w.heap.size ∧ w.cell? ⟨b, o + k * 2, none⟩ = some (.int .i64 ((l.getD k nW).1 : Int)) ∧ w.cell? ⟨b, o + k * 2 + 1, none⟩ = some (.string ⟨(l.getD k nW).2.toArray⟩) := by
  have hl := tcells_length l
  obtain ⟨b, o, e, hc⟩ := h (by omega)
  obtain ⟨h1, h2⟩ := tcells_get l k hk
  refine ⟨b, o, e, hc.lt, ?_, ?_⟩
  · rw [hc.cell (k * 2) (by omega), ← List.getElem?_eq_getElem, h1]
  · rw [Nat.add_assoc, hc.cell (k * 2 + 1) (by omega), ← List.getElem?_eq_getElem, h2]
/-- A slice that the call owns reads as its writes. -/
theorem own_readsT {w : World} {base n : Nat} {e : TypeId} {v : Value} {l : List (Nat × List UInt8)} (h : w.ownsRow base e 2 v n (tcells l)) : ∃ A c, v = .slice A n c ∧ l.length = n ∧ Cells w A (tcells l) ∧ n ≤ c ∧ c ≤ maxLen ∧ (∀ a, A = some a → base ≤ a.block ∧ a.block < w.heap.size) := by
  have hl : l.length = n := by have := h.1; rw [tcells_length] at this; omega
  rcases h.2 with ⟨rfl, rfl⟩ | ⟨g, cap, cur, rfl, hg, hh, hn, hm, _⟩
  · have : l = [] := List.eq_nil_of_length_eq_zero hl
    subst this
    exact ⟨none, 0, rfl, rfl, Cells.nil _ _, Nat.le_refl _, by simp [maxLen], fun a ha => by cases ha⟩
  · exact ⟨_, cap, rfl, hl, (MemC.of_ownC h).1.cells, hn, hm, fun a ha => by injection ha with ha; subst ha; exact ⟨hg, (Array.getElem?_eq_some_iff.1 hh).1⟩⟩

/-- The document's disk at r: what came lies at Ac, what waits at Aw. -/
structure RefIn (F : Nat → Prop) (w : World) (r : Nat) (Ac : Option Addr) (cc : Nat) (Aw : Option Addr) (wc : Nat) (D : Dk) (C : List (Nat × List UInt8)) : Prop where
  ok : D.Ok
  head : MemC w r 0 [.int .i64 (D.blks.length : Int), .slice Ac C.length cc, .slice Aw D.waits.length wc, .int .i64 D.left, .bool D.down]
  came : Cells w Ac (tcells C)
  waits : Cells w Aw (tcells D.waits)
  ccap : C.length ≤ cc
  ccm : cc ≤ maxLen
  wcap : D.waits.length ≤ wc
  wcm : wc ≤ maxLen
  cok : ∀ x ∈ C, x.2.length = 128
  agree : ∀ a, a < D.blks.length → standsL C a = D.blks.getD a []
  few : C.length ≤ 1000
  fr : F r
  fc : ∀ a, Ac = some a → F a.block ∧ a.block ≠ r ∧ a.block < w.heap.size
  fw : ∀ a, Aw = some a → F a.block ∧ a.block ≠ r ∧ a.block < w.heap.size
  new : ∀ b, w.heap.size ≤ b → F b
def RefAt (F : Nat → Prop) (w : World) (r : Nat) (D : Dk) (C : List (Nat × List UInt8)) : Prop := ∃ Ac cc Aw wc, RefIn F w r Ac cc Aw wc D C

theorem RefIn.lt {F : Nat → Prop} {w : World} {r : Nat} {Ac : Option Addr} {cc : Nat} {Aw : Option Addr} {wc : Nat} {D : Dk} {C : List (Nat × List UInt8)} (h : RefIn F w r Ac cc Aw wc D C) : r < w.heap.size := h.head.at_.lt
theorem RefIn.keep {F : Nat → Prop} {w w' : World} {r : Nat} {Ac : Option Addr} {cc : Nat} {Aw : Option Addr} {wc : Nat} {D : Dk} {C : List (Nat × List UInt8)} (h : RefIn F w r Ac cc Aw wc D C) (hb : Below w.heap.size w w') : RefIn F w' r Ac cc Aw wc D C :=
  ⟨h.ok, h.head.keep hb, h.came.keep hb, h.waits.keep hb, h.ccap, h.ccm, h.wcap, h.wcm, h.cok, h.agree, h.few, h.fr, fun a e => ⟨(h.fc a e).1, (h.fc a e).2.1, Nat.lt_of_lt_of_le (h.fc a e).2.2 hb.size⟩, fun a e => ⟨(h.fw a e).1, (h.fw a e).2.1, Nat.lt_of_lt_of_le (h.fw a e).2.2 hb.size⟩, fun b hB => h.new b (Nat.le_trans hb.size hB)⟩
theorem RefAt.keep {F : Nat → Prop} {w w' : World} {r : Nat} {D : Dk} {C : List (Nat × List UInt8)} (h : RefAt F w r D C) (hb : Below w.heap.size w w') : RefAt F w' r D C := by
  obtain ⟨Ac, cc, Aw, wc, h⟩ := h
  exact ⟨Ac, cc, Aw, wc, h.keep hb⟩
theorem RefIn.turn {F G : Nat → Prop} {w w' : World} {r : Nat} {Ac : Option Addr} {cc : Nat} {Aw : Option Addr} {wc : Nat} {D : Dk} {C : List (Nat × List UInt8)} (h : RefIn F w r Ac cc Aw wc D C) (ht : Turn G w w') (hr : ¬ G r) (hc : ∀ a, Ac = some a → ¬ G a.block) (hw : ∀ a, Aw = some a → ¬ G a.block) : RefIn F w' r Ac cc Aw wc D C :=
  ⟨h.ok, h.head.turn ht hr, h.came.turn ht hc, h.waits.turn ht hw, h.ccap, h.ccm, h.wcap, h.wcm, h.cok, h.agree, h.few, h.fr, fun a e => ⟨(h.fc a e).1, (h.fc a e).2.1, Nat.lt_of_lt_of_le (h.fc a e).2.2 ht.size⟩, fun a e => ⟨(h.fw a e).1, (h.fw a e).2.1, Nat.lt_of_lt_of_le (h.fw a e).2.2 ht.size⟩, fun b hB => h.new b (Nat.le_trans ht.size hB)⟩
theorem RefIn.mono {F G : Nat → Prop} {w : World} {r : Nat} {Ac : Option Addr} {cc : Nat} {Aw : Option Addr} {wc : Nat} {D : Dk} {C : List (Nat × List UInt8)} (h : RefIn G w r Ac cc Aw wc D C) (hr : F r) (hc : ∀ a, Ac = some a → F a.block) (hw : ∀ a, Aw = some a → F a.block) (hn : ∀ b, w.heap.size ≤ b → F b) : RefIn F w r Ac cc Aw wc D C :=
  ⟨h.ok, h.head, h.came, h.waits, h.ccap, h.ccm, h.wcap, h.wcm, h.cok, h.agree, h.few, hr, fun a e => ⟨hc a e, (h.fc a e).2⟩, fun a e => ⟨hw a e, (h.fw a e).2⟩, hn⟩
/-- The blocks that the document's disk may turn now. -/
def TightR (w : World) (r : Nat) (Ac Aw : Option Addr) (b : Nat) : Prop := b = r ∨ (∃ a, Ac = some a ∧ a.block = b) ∨ (∃ a, Aw = some a ∧ a.block = b) ∨ w.heap.size ≤ b
theorem RefIn.tight {F : Nat → Prop} {w : World} {r : Nat} {Ac : Option Addr} {cc : Nat} {Aw : Option Addr} {wc : Nat} {D : Dk} {C : List (Nat × List UInt8)} (h : RefIn F w r Ac cc Aw wc D C) : RefAt (TightR w r Ac Aw) w r D C :=
  ⟨Ac, cc, Aw, wc, h.mono (.inl rfl) (fun a e => .inr (.inl ⟨a, e, rfl⟩)) (fun a e => .inr (.inr (.inl ⟨a, e, rfl⟩))) (fun b hb => .inr (.inr (.inr hb)))⟩

/-- Both disks, apart. -/
def Both (F : Nat → Prop) (w : World) (p q r : Nat) (D E : Dk) (C : List (Nat × List UInt8)) : Prop :=
  ∃ c v Ac cc Aw wc, DiskIn F w p q c v D ∧ RefIn F w r Ac cc Aw wc E C ∧ ¬ Tight w p q v r ∧ (∀ a, Ac = some a → ¬ Tight w p q v a.block) ∧ (∀ a, Aw = some a → ¬ Tight w p q v a.block)
theorem Both.keep {F : Nat → Prop} {w w' : World} {p q r : Nat} {D E : Dk} {C : List (Nat × List UInt8)} (h : Both F w p q r D E C) (hb : Below w.heap.size w w') : Both F w' p q r D E C := by
  obtain ⟨c, v, Ac, cc, Aw, wc, hd, hr, n1, n2, n3⟩ := h
  have more : ∀ b, b < w.heap.size → ¬ Tight w p q v b → ¬ Tight w' p q v b := fun b hlt hn ht => by
    have := hb.size
    rcases ht with h | h | h | h
    · exact hn (.inl h)
    · exact hn (.inr (.inl h))
    · exact hn (.inr (.inr (.inl h)))
    · omega
  exact ⟨c, v, Ac, cc, Aw, wc, hd.keep hb, hr.keep hb, more _ hr.lt n1, fun a e => more _ (hr.fc a e).2.2 (n2 a e), fun a e => more _ (hr.fw a e).2.2 (n3 a e)⟩
/-- The program's disk turns. -/
theorem both_disk {F : Nat → Prop} {w w' : World} {p q r c : Nat} {v : Value} {Ac : Option Addr} {cc : Nat} {Aw : Option Addr} {wc : Nat} {D E D' : Dk} {C : List (Nat × List UInt8)} (hd : DiskIn F w p q c v D) (hr : RefIn F w r Ac cc Aw wc E C) (n1 : ¬ Tight w p q v r) (n2 : ∀ a, Ac = some a → ¬ Tight w p q v a.block) (n3 : ∀ a, Aw = some a → ¬ Tight w p q v a.block)
    (hd' : DiskAt (Tight w p q v) w' p q D') (ht : Turn (Tight w p q v) w w') : Both F w' p q r D' E C := by
  obtain ⟨c', v', hd'⟩ := hd'
  have more : ∀ b, b < w.heap.size → ¬ Tight w p q v b → ¬ Tight w' p q v' b := fun b hlt hn h => by
    have := ht.size
    rcases h with h | h | h | h
    · exact hn (.inl h)
    · exact hn (.inr (.inl h))
    · exact hn (hd'.fv b h)
    · omega
  obtain ⟨c2, v2, h2⟩ := (show DiskAt F w' p q D' from DiskAt.mono ⟨c', v', hd'⟩ hd.tight_le)
  have e : DiskIn F w' p q c' v' D' := ⟨hd'.ok, hd'.head, hd'.cap, hd'.capm, hd'.blks, hd'.waits, hd.fp, hd.fq, fun g hg => hd.tight_le _ (hd'.fv g hg), fun b hb => hd.new b (Nat.le_trans ht.size hb), hd'.pq, hd'.vp, hd'.vq⟩
  exact ⟨c', v', Ac, cc, Aw, wc, e, hr.turn ht n1 n2 n3, more _ hr.lt n1, fun a e => more _ (hr.fc a e).2.2 (n2 a e), fun a e => more _ (hr.fw a e).2.2 (n3 a e)⟩
/-- The document's disk turns. -/
theorem both_ref {F : Nat → Prop} {w w' : World} {p q r c : Nat} {v : Value} {Ac : Option Addr} {cc : Nat} {Aw : Option Addr} {wc : Nat} {D E E' : Dk} {C C' : List (Nat × List UInt8)} (hd : DiskIn F w p q c v D) (hr : RefIn F w r Ac cc Aw wc E C) (n1 : ¬ Tight w p q v r) (n2 : ∀ a, Ac = some a → ¬ Tight w p q v a.block) (n3 : ∀ a, Aw = some a → ¬ Tight w p q v a.block)
    (hr' : RefAt (TightR w r Ac Aw) w' r E' C') (ht : Turn (fun b => b = r) w w') : Both F w' p q r D E' C' := by
  obtain ⟨Ac', cc', Aw', wc', hr'⟩ := hr'
  have far : ∀ b, b < w'.heap.size → TightR w r Ac Aw b → ¬ Tight w' p q v b := fun b hlt hb h => by
    have hs := ht.size
    have key : b < w.heap.size → ¬ Tight w p q v b → False := fun hl hn => by
      rcases h with h | h | h | h
      · exact hn (.inl h)
      · exact hn (.inr (.inl h))
      · exact hn (.inr (.inr (.inl h)))
      · omega
    rcases hb with rfl | ⟨a, e, rfl⟩ | ⟨a, e, rfl⟩ | hb
    · exact key hr.lt n1
    · exact key (hr.fc a e).2.2 (n2 a e)
    · exact key (hr.fw a e).2.2 (n3 a e)
    · have hp := hd.lt
      rcases h with h | h | h | h
      · omega
      · omega
      · have := (hd.waits.lt b h).2; omega
      · omega
  have le : ∀ b, TightR w r Ac Aw b → F b := fun b hb => by
    rcases hb with rfl | ⟨a, e, rfl⟩ | ⟨a, e, rfl⟩ | hb
    · exact hr.fr
    · exact (hr.fc a e).1
    · exact (hr.fw a e).1
    · exact hr.new b hb
  have hnr : p ≠ r ∧ q ≠ r ∧ ∀ g, v.ownBlock = some g → g ≠ r := ⟨fun e => n1 (.inl e.symm), fun e => n1 (.inr (.inl e.symm)), fun g hg e => n1 (.inr (.inr (.inl (by rw [hg, e]))))⟩
  exact ⟨c, v, Ac', cc', Aw', wc', hd.turn ht hnr.1 hnr.2.1 hnr.2.2, hr'.mono hr.fr (fun a e => le _ (hr'.fc a e).1) (fun a e => le _ (hr'.fw a e).1) (fun b hb => le _ (hr'.new b hb)), far _ hr'.lt (.inl rfl), fun a e => far _ (hr'.fc a e).2.2 (hr'.fc a e).1, fun a e => far _ (hr'.fw a e).2.2 (hr'.fw a e).1⟩
/-- A block turns that is neither's. -/
theorem Both.other {F G : Nat → Prop} {w w' : World} {p q r : Nat} {D E : Dk} {C : List (Nat × List UInt8)} (h : Both F w p q r D E C) (ht : Turn G w w') (hG : ∀ b, F b → ¬ G b) : Both F w' p q r D E C := by
  obtain ⟨c, v, Ac, cc, Aw, wc, hd, hr, n1, n2, n3⟩ := h
  have more : ∀ b, b < w.heap.size → ¬ Tight w p q v b → ¬ Tight w' p q v b := fun b hlt hn h => by
    have := ht.size
    rcases h with h | h | h | h
    · exact hn (.inl h)
    · exact hn (.inr (.inl h))
    · exact hn (.inr (.inr (.inl h)))
    · omega
  exact ⟨c, v, Ac, cc, Aw, wc, hd.turn ht (hG _ hd.fp) (hG _ hd.fq) (fun g hg => hG _ (hd.fv g hg)), hr.turn ht (hG _ hr.fr) (fun a e => hG _ (hr.fc a e).1) (fun a e => hG _ (hr.fw a e).1), more _ hr.lt n1, fun a e => more _ (hr.fc a e).2.2 (n2 a e), fun a e => more _ (hr.fw a e).2.2 (n3 a e)⟩
/-- The blocks are told more narrowly: none of them is g, that was made later. -/
theorem Both.apart {F : Nat → Prop} {w w' : World} {p q r g : Nat} {D E : Dk} {C : List (Nat × List UInt8)} (h : Both F w p q r D E C) (hb : Below w.heap.size w w') (hg : w.heap.size ≤ g) (hg2 : g < w'.heap.size) : Both (fun b => F b ∧ b ≠ g) w' p q r D E C := by
  obtain ⟨c, v, Ac, cc, Aw, wc, hd, hr, n1, n2, n3⟩ := h
  have more : ∀ b, b < w.heap.size → ¬ Tight w p q v b → ¬ Tight w' p q v b := fun b hlt hn ht => by
    have := hb.size
    rcases ht with h | h | h | h
    · exact hn (.inl h)
    · exact hn (.inr (.inl h))
    · exact hn (.inr (.inr (.inl h)))
    · omega
  have hl := hd.lt
  have hrl := hr.lt
  have hd2 := hd.keep hb
  refine ⟨c, v, Ac, cc, Aw, wc, ⟨hd2.ok, hd2.head, hd2.cap, hd2.capm, hd2.blks, hd2.waits, ⟨hd.fp, by omega⟩, ⟨hd.fq, by omega⟩, fun j hj => ⟨hd.fv j hj, by have := (hd.waits.lt j hj).2; omega⟩, fun b hB => ⟨hd2.new b hB, by omega⟩, hd2.pq, hd2.vp, hd2.vq⟩, (hr.keep hb).mono ⟨hr.fr, by omega⟩ (fun a e => ⟨(hr.fc a e).1, by have := (hr.fc a e).2.2; omega⟩) (fun a e => ⟨(hr.fw a e).1, by have := (hr.fw a e).2.2; omega⟩) (fun b hB => ⟨(hr.keep hb).new b hB, by omega⟩), more _ hr.lt n1, fun a e => more _ (hr.fc a e).2.2 (n2 a e), fun a e => more _ (hr.fw a e).2.2 (n3 a e)⟩
/-- .. and more widely. -/
theorem Both.mono {F G : Nat → Prop} {w : World} {p q r : Nat} {D E : Dk} {C : List (Nat × List UInt8)} (h : Both G w p q r D E C) (hG : ∀ b, G b → F b) : Both F w p q r D E C := by
  obtain ⟨c, v, Ac, cc, Aw, wc, hd, hr, n1, n2, n3⟩ := h
  exact ⟨c, v, Ac, cc, Aw, wc, ⟨hd.ok, hd.head, hd.cap, hd.capm, hd.blks, hd.waits, hG _ hd.fp, hG _ hd.fq, fun g hg => hG _ (hd.fv g hg), fun b hb => hG _ (hd.new b hb), hd.pq, hd.vp, hd.vq⟩, hr.mono (hG _ hr.fr) (fun a e => hG _ (hr.fc a e).1) (fun a e => hG _ (hr.fw a e).1) (fun b hb => hG _ (hr.new b hb)), n1, n2, n3⟩

end Go.Proofs.Ytdnhlpddnbholaa
