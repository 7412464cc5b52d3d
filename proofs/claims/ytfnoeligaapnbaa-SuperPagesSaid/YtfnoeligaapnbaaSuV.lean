/-
  Which of two supers counts, as pages; whole supers stored in regions that draw their order.
-/
import Derived.Test.YtfnoeligaapnbaaSuU
namespace Go.Proofs.Ytfnoeligaapnbaa
open Go.RowKit Go.Shelf
set_option linter.unusedVariables false
set_option linter.unusedSimpArgs false

theorem isSup_nil : isSup [] = false := by decide +kernel
theorem isSup_enc (s : Sup) : isSup (encL s) = rightS s := by
  unfold encL
  cases h : rightS s
  · exact isSup_nil
  · rw [if_pos rfl, isSup_page, h]
theorem supOf_enc {s : Sup} (h : rightS s = true) : supOf (bodyOf (encL s)) = s := by
  unfold encL
  rw [h, if_pos rfl, supOf_page]
theorem pV_none {x y : Sup} (h : rightS x = false ∨ (rightS x = true ∧ x.gen.toNat % 2 = 1)) (g : rightS y = false ∨ (rightS y = true ∧ y.gen.toNat % 2 = 0)) : pickV (encL x) (encL y) = .tuple #[sval noS, .int .i64 0, .int .i64 60] := by
  refine pickV_n ?_ ?_
  · rcases h with h | ⟨h, h2⟩
    · left; rw [isSup_enc, h]
    · right; rw [supOf_enc h, h2]
  · rcases g with h | ⟨h, h2⟩
    · left; rw [isSup_enc, h]
    · right; rw [supOf_enc h, h2]
theorem pV_x {x y : Sup} (h : rightS x = true) (h0 : x.gen.toNat % 2 = 0) (g : rightS y = false ∨ (rightS y = true ∧ y.gen.toNat % 2 = 0) ∨ (rightS y = true ∧ ¬ x.gen.toNat < y.gen.toNat)) : pickV (encL x) (encL y) = .tuple #[sval x, .int .i64 0, .int .i64 0] := by
  have e := pickV_p (p := encL x) (q := encL y) (by rw [isSup_enc, h]) (by rw [supOf_enc h, h0]) (by
    rcases g with g | ⟨g, g2⟩ | ⟨g, g2⟩
    · left; rw [isSup_enc, g]
    · right; left; rw [supOf_enc g, g2]
    · right; right; rw [supOf_enc g, supOf_enc h]; exact g2)
  rwa [supOf_enc h] at e
theorem pV_y {x y : Sup} (h : rightS y = true) (h0 : y.gen.toNat % 2 = 1) (g : rightS x = false ∨ (rightS x = true ∧ x.gen.toNat % 2 = 1) ∨ (rightS x = true ∧ x.gen.toNat % 2 = 0 ∧ x.gen.toNat < y.gen.toNat)) : pickV (encL x) (encL y) = .tuple #[sval y, .int .i64 1, .int .i64 0] := by
  have hg := right_gen h
  have e := pickV_q (p := encL x) (q := encL y) (by rw [isSup_enc, h]) (by rw [supOf_enc h, h0]) (by
    rw [supOf_enc h]
    rcases g with g | ⟨g, g2⟩ | ⟨g, g1, g2⟩
    · rw [best1_no (by rw [isSup_enc, g])]; exact hg
    · rw [best1_odd (by rw [supOf_enc g, g2])]; exact hg
    · rw [best1_yes (by rw [isSup_enc, g]) (by rw [supOf_enc g, g1]), supOf_enc g]; exact g2)
  rwa [supOf_enc h] at e

theorem Reads8.but {w w' : World} {k : Nat} {A : Option Addr} {n : Nat} {l : List UInt8} (h : Reads8 w A n l) (hb : But k w w') (hd : ∀ a, A = some a → a.block ≠ k) : Reads8 w' A n l :=
  ⟨h.1, fun hn => by
    obtain ⟨b, o, e, hlt, hc⟩ := h.2 hn
    exact ⟨b, o, e, by rw [hb.1]; exact hlt, fun j hj => (World.cell?_of_block (a := ⟨b, o + j, none⟩) (hb.2.2.2.2 b (hd _ e))).trans (hc j hj)⟩⟩
/-- Encode's page lies in new memory. -/
theorem encode_n (s : Sup) (w : World) : Calls Try.prog 12 #[sval s] w fun e w' => ∃ A n c, e = .returned (.tuple #[.slice A n c, .int .i64 (encE s)]) ∧ Reads8 w' A n (encL s) ∧ n ≤ c ∧ (∀ a, A = some a → w.heap.size ≤ a.block) ∧ Below w.heap.size w w' := by
  unfold encL encE
  cases h : rightS s
  · refine (encode_bad s w h).mono ?_
    rintro e w' ⟨rfl, hb⟩
    exact ⟨none, 0, 0, rfl, Reads8.nil _ _, Nat.le_refl _, fun a e => by (cases e), hb⟩
  · refine (encode_good s w h).mono ?_
    rintro e w' ⟨v, rfl, g, c, rfl, hg, hc, hcm, hM, hb⟩
    exact ⟨_, _, _, rfl, hM.reads, hc, fun a e => by injection e with e; rw [← e]; exact hg, hb⟩

theorem wp_storeS {op : Oper} {a : Act} {w : World} {K : Act → World → Prop} {Q : Exit → Act → World → Prop} (x y : Operand) (ho : op.op = .store 27 x y) (B : Nat) (s0 s : Sup) (hx : a.eval x = .pointer (some ⟨B, 0, none⟩)) (hy : a.eval y = sval s) (hm : MemC w B 0 (scells s0))
    (h : ∀ W, But B w W → MemC W B 0 (scells s) → K (a.put op.dst undef) W) : op.wp Try.prog a w K Q := by
  have hi : (Try.prog.info? 27).map (·.size) = some (scells s).toArray.size := by simpa using supinfo s
  refine wp_store_mid 27 x y ho B 0 (scells s).toArray hx hy (hm.there (by simp [scells_length])) hi (all_oneCell_toArray (scells_one s)) ?_
  rw [List.toList_toArray]
  exact h _ ⟨(setCells_size _ _ _ _), (below_setCells (Nat.le_refl B) (scells s) w 0).os, (below_setCells (Nat.le_refl B) (scells s) w 0).tape, (below_setCells (Nat.le_refl B) (scells s) w 0).output, fun j hj => heap_setCells _ _ _ _ _ hj⟩ (hm.setS s)

end Go.Proofs.Ytfnoeligaapnbaa
