/-
  SuperTorn: bytes read again, and others appended to them.
-/
import Derived.Test.YtfnoeligaapnbaaSuZ
import Derived.Laws.IdiomCopy
namespace Go.Proofs.Ytfnoeligaapnbaa
open Go.RowKit Go.Shelf
set_option linter.unusedVariables false
set_option linter.unusedSimpArgs false

theorem wrote_setCells (b : Nat) : ∀ (vs : List Value) (w : World) (o : Nat), Wrote w (w.setCells b o vs) b o (o + vs.length)
  | [], w, o => Wrote.refl _ _ _ _
  | v :: vs, w, o => by
    have h := wrote_setCells b vs (w.setCell ⟨b, o, none⟩ v) (o + 1)
    exact ((Wrote.set w b o v).mono (Nat.le_refl _) (by simp)).trans (h.mono (by omega) (by simp only [List.length_cons]; omega))
theorem bytesRow_all (l : List UInt8) (cap j : Nat) (h : j < (l ++ List.replicate (cap - l.length) 0).length) : (bytesRow ⟨l.toArray⟩ cap)[j]? = some (.int .u8 ((l ++ List.replicate (cap - l.length) (0 : UInt8))[j].toNat : Int)) := by
  by_cases hj : j < l.length
  · rw [bytesRow_get l cap j hj, List.getElem_append_left hj]
  · unfold bytesRow
    rw [Array.getElem?_append_right (by simpa using hj), List.getElem_append_right (by omega)]
    simp only [List.getElem_replicate]
    rw [Array.getElem?_replicate, if_pos]
    · rfl
    · have hz : (⟨l.toArray⟩ : ByteArray).size = l.length := rfl
      rw [hz]
      simp at h ⊢
      omega

set_option maxHeartbeats 400000 in
/-- 'Again', with what lies behind. -/
theorem again_cap (A : Option Addr) (n c : Nat) (l : List UInt8) (w : World) (h : Reads8 w A n l) (hn : n ≤ maxLen) :
    Calls Try.prog 11 #[.slice A n c] w fun e w' => ∃ k, e = .returned (.slice (some ⟨w.heap.size, 0, none⟩) n k) ∧ n ≤ k ∧ k ≤ maxLen ∧ Mem8 w' w.heap.size 0 k (l ++ List.replicate (k - n) 0) ∧ Below w.heap.size w w' := by
  have h1 := conv8 A n c l w h
  have h2 := fun w s => run_bytes_of_string (P := Try.prog) w 9 28 5 s Try.underlying9 Try.underlying28 Try.underlying5
  have hl : l.length = n := h.1
  subst hl
  go_enter Try.func11, Try.ntmps11
  have hcm := grownCap_le_maxLen w l.length 0 5 (by omega)
  have hcg := grownCap_ge w l.length 0 5
  go_wp2
  go_ret
  refine ⟨_, rfl, hcg, hcm, ?_, ?_⟩
  · refine Mem8.drew (Mem8.of_blk (heap_alloc_new w _) (by simp; omega) (fun j hj => ?_) (.inl ?_))
    · rw [Nat.zero_add]; exact bytesRow_all l _ j hj
    · have hz : (⟨l.toArray⟩ : ByteArray).size = l.length := rfl
      simp [bytesRow, hz]; omega
  · exact ((Below.refl _ _).alloc (Nat.le_refl _) _).drew

/-- 'append(s, x...)': s has its whole room laid open. -/
theorem wp_append_open {P : Program} {w : World} {o : Oper} {a : Act} {K : Act → World → Prop} {Q : Exit → Act → World → Prop} (s x : Operand) (t : TypeId)
    (ho : o.op = .call { callee := .builtin .append, args := #[s, x], argTypes := #[t, t] }) (e : TypeId) (ht : P.underlying t = some (.slice e)) (hinfo : (P.info? e).map (fun i => (i.zero, i.size, i.bytes)) = some (some (.int .u8 0), 1, 1))
    (g n k : Nat) (l z : List UInt8) (hs : a.eval s = .slice (some ⟨g, 0, none⟩) n k) (hl : l.length = n) (hm : Mem8 w g 0 k (l ++ z)) (hk : k ≤ maxLen)
    (b off m c : Nat) (r : List UInt8) (hx : a.eval x = .slice (some ⟨b, off, none⟩) m c) (hr : r.length = m) (hc : ∀ j (h : j < r.length), w.cell? ⟨b, off + j, none⟩ = some (.int .u8 (r[j].toNat : Int))) (hb : n + m ≤ 140737488355328)
    (h : ∀ g' k' w', (g' = g ∨ w.heap.size ≤ g') → n + m ≤ k' → k' ≤ maxLen → Mem8 w' g' 0 (n + m) (l ++ r) → (∀ j, j < w.heap.size → j ≠ g → w'.heap[j]? = w.heap[j]?) → w.heap.size ≤ w'.heap.size → w'.os = w.os → w'.tape = w.tape → w'.output = w.output → K (a.put o.dst (.slice (some ⟨g', 0, none⟩) (n + m) k')) w') :
    o.wp P a w K Q := by
  obtain ⟨i0, hi, hz0, hz1, hz2⟩ := info_parts hinfo
  have hnews : ∀ j u, (bcells r)[j]? = some u → w.cell? ((⟨b, off, none⟩ : Addr).add j) = some u := fun j u hj => by
    have hjl : j < r.length := by have := (List.getElem?_eq_some_iff.1 hj).1; simpa [bcells_length] using this
    rw [bcells_get hjl] at hj
    injection hj with hj
    subst hj
    rw [Addr.add_lit']
    exact hc j hjl
  have hlen := hm.len
  rw [List.length_append] at hlen
  by_cases hroom : n + m ≤ k
  · have hst := run_storeCells_cells (P := P) g n (bcells r) 0 w (fun j hj => by
        rw [bcells_length] at hj
        have := hm.cell (n + j) (by rw [List.length_append]; omega)
        simp only [Nat.zero_add] at this
        rw [Nat.add_zero, this]; rfl) (fun j hj => by
        rw [bcells_length] at hj
        have := hm.free (n + j) (by rw [List.length_append]; omega)
        simpa using this) (bcells_one r)
    have hf := run_firstCells_some (P := P) w i0.size m ⟨b, off, none⟩ m c (bcells r) (by rw [bcells_length, hz1]; omega) hnews
    rw [hz1] at hf
    have hrun : (Builtin.append_ #[t, t] o.type #[.slice (some ⟨g, 0, none⟩) n k, .slice (some ⟨b, off, none⟩) m c]).run P w = .ok (.slice (some ⟨g, 0, none⟩) (n + m) k) (w.setCells g n (bcells r)) := by
      simp [Builtin.append_, run_underlying ht, sizeOf, typeInfo, hi, Builtin.lenOf, hroom, hf, Addr.add_lit, hz1, hst]
    have hw : Wrote w (w.setCells g n (bcells r)) g n (n + m) := by
      have := wrote_setCells g (bcells r) w n
      rwa [bcells_length, hr] at this
    have hmr : Mem8 (w.setCells g n (bcells r)) g n m r := by
      have ht' : w.there g n (bcells r).length := fun j hj => by
        rw [bcells_length] at hj
        have h1 := hm.cell (n + j) (by rw [List.length_append]; omega)
        have h2 := hm.free (n + j) (by rw [List.length_append]; omega)
        rw [Nat.zero_add] at h1 h2
        exact ⟨by rw [h1]; rfl, h2⟩
      refine ⟨hr, by rw [hw.size]; exact hm.lt, fun j hj => World.rangeAt_setCells_same w g n (bcells r) ht' j _ (bcells_get hj), fun j hj => ?_⟩
      rw [hw.frz]
      exact (ht' j (by rw [bcells_length]; exact hj)).2
    have hml : Mem8 (w.setCells g n (bcells r)) g 0 n l := by
      have h0 := hm.sub 0 n (by omega)
      rw [List.drop_zero, List.take_append_of_le_length (by omega), List.take_of_length_le (by omega)] at h0
      exact hw.far h0 (.inr (.inl (by omega)))
    have hj := hml.join (m := m) (k := r) (by simpa using hmr)
    unfold Oper.wp execOp
    simp only [ho, resolve, invoke, builtin, Sem.run_bind, Sem.run_pure, Result.andThen_ok, List.map_toArray, List.map_cons, List.map_nil, hs, hx, hrun]
    exact h g k _ (.inl rfl) hroom hk hj (fun j _ hj => hw.other j hj) (Nat.le_of_eq hw.size.symm) hw.os hw.tape hw.output
  · have holds : ∀ j v, (bcells l)[j]? = some v → w.cell? ((⟨g, 0, none⟩ : Addr).add j) = some v := fun j u hj => by
      have hjl : j < l.length := by have := (List.getElem?_eq_some_iff.1 hj).1; simpa [bcells_length] using this
      rw [bcells_get hjl] at hj
      injection hj with hj
      subst hj
      rw [Addr.add_lit', hm.cell j (by rw [List.length_append]; omega), List.getElem_append_left hjl]
    have hrun := run_append_grow (P := P) w t o.type e i0 (.int .u8 0) ht hi hz0 ⟨g, 0, none⟩ n k (bcells l) (by rw [bcells_length, hz1]; omega) holds ⟨b, off, none⟩ m c (bcells r) (by rw [bcells_length, hz1]; omega) hnews (by omega) (by omega) (by
      have h2 := nextslicecap_le (need := n + m) (old := k) (by omega)
      rw [hz2]
      omega)
    have hge := grownCap_ge w (n + m) k e
    have hle := grownCap_le_maxLen w (n + m) k e (by simp only [maxLen]; omega)
    have hb2 : Below w.heap.size w (w.drew.alloc (.cells ((bcells l).toArray ++ (bcells r).toArray ++ Builtin.zeroCells (Value.int IntKind.u8 0).cells (grownCap w (n + m) k e - (n + m))) e)) := (Below.refl w.heap.size w).drew.alloc (Nat.le_refl _) _
    have hnew : Mem8 (w.drew.alloc (.cells ((bcells l).toArray ++ (bcells r).toArray ++ Builtin.zeroCells (Value.int IntKind.u8 0).cells (grownCap w (n + m) k e - (n + m))) e)) w.heap.size 0 (n + m) (l ++ r) := by
      refine Mem8.of_blk (heap_alloc_new w.drew _) (by rw [List.length_append, hl, hr]) (fun j hj => ?_) (.inr (by simp))
      have e1 : (bcells l).toArray ++ (bcells r).toArray = (bcells (l ++ r)).toArray := by simp [bcells]
      rw [e1, Nat.zero_add, Array.getElem?_append_left (by simpa [bcells_length] using hj)]
      simpa using bcells_get hj
    unfold Oper.wp execOp
    simp only [ho, resolve, invoke, builtin, Sem.run_bind, Sem.run_pure, Result.andThen_ok, List.map_toArray, List.map_cons, List.map_nil, hs, hx, hrun]
    exact h w.heap.size _ _ (.inr (Nat.le_refl _)) hge hle hnew (fun j hj _ => hb2.block j hj) hb2.size hb2.os hb2.tape hb2.output

end Go.Proofs.Ytfnoeligaapnbaa
