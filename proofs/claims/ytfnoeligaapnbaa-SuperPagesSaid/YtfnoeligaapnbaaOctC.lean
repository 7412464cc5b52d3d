/-
  octets.parts, bytes.Clone, catchmentref01.Bytes; append's law over 'Reads8'.
-/
import Derived.Test.YtfnoeligaapnbaaOctB
import Derived.RegionTactic
import Derived.Deep.QuietTactic
import Derived.BigQuiet
import Derived.Maps.AppendAt
namespace Go.Proofs.Ytfnoeligaapnbaa
open Go.RowKit
set_option linter.unusedVariables false

/-- Bytes as cells. -/
def bcells (l : List UInt8) : List Value := l.map (fun c => .int .u8 (c.toNat : Int))
theorem bcells_length (l : List UInt8) : (bcells l).length = l.length := by simp [bcells]
theorem bcells_append (l k : List UInt8) : bcells (l ++ k) = bcells l ++ bcells k := by simp [bcells]
theorem bcells_one (l : List UInt8) : ∀ u ∈ bcells l, u.oneCell' = true := by
  intro u hu
  obtain ⟨_, _, rfl⟩ := List.mem_map.1 hu
  rfl
theorem bcells_get {l : List UInt8} {j : Nat} (h : j < l.length) : (bcells l)[j]? = some (.int .u8 (l[j].toNat : Int)) := by simp [bcells, h]

/-- What is owned, and not nil, is new memory. -/
theorem Fresh8.of_own {w w' : World} {v : Value} {l : List UInt8} {e : TypeId} (h : w'.ownsRow w.heap.size e 1 v l.length (bcells l)) (hv : v ≠ .slice none 0 0) (hb : Below w.heap.size w w') : Fresh8 w w' v l := by
  rcases h.2 with ⟨rfl, _⟩ | ⟨g, cap, cur, rfl, hg, hh, hn, hm, hs, ht⟩
  · exact absurd rfl hv
  · refine ⟨g, cap, rfl, hg, hn, hm, ?_, hb⟩
    refine Mem8.of_blk hh rfl (fun j hj => ?_) (.inr (by simp))
    have e1 : cur.toList[j]? = (bcells l)[j]? := by rw [← ht, List.getElem?_take]; simp [hj]
    rw [Nat.zero_add, ← Array.getElem?_toList, e1, bcells_get hj]

/-- 'page[: 124 : 124], page[124 : 128 : 128]'. -/
theorem parts_any (b o c : Nat) (w : World) (hc : 128 ≤ c) :
    Calls Try.prog 36 #[.slice (some ⟨b, o, none⟩) 128 c] w fun e w' => e = .returned (.tuple #[.slice (some ⟨b, o, none⟩) 124 124, .slice (some ⟨b, o + 124, none⟩) 4 4]) ∧ ∃ q, w' = w.drewN q := by
  have h1 : ¬ c = 124 := by omega
  have h2 : (124 : Int) ≤ c := by omega
  have h3 : (128 : Int) ≤ c := by omega
  go_enter Try.func36, Try.ntmps36
  go_wp2
  go_quiet (fail)
  go_wp2
  go_ret2
  exact ⟨rfl, _, rfl⟩


section
variable {P : Program} {w : World}
/-- 'append(s, x...)', s nil or the call's own, x bytes that came in, nil, empty or not. -/
theorem wp_append8 {o : Oper} {a : Act} {K : Act → World → Prop} {Q : Exit → Act → World → Prop} (s x : Operand) (t : TypeId)
    (ho : o.op = .call { callee := .builtin .append, args := #[s, x], argTypes := #[t, t] })
    (base : Nat) (e : TypeId) (ht : P.underlying t = some (.slice e)) (hinfo : (P.info? e).map (fun i => (i.zero, i.size, i.bytes)) = some (some (.int .u8 0), 1, 1))
    (v : Value) (n : Nat) (xs : List UInt8) (hs : a.eval s = v) (hown : w.ownsRow base e 1 v n (bcells xs))
    (A : Option Addr) (m c : Nat) (l : List UInt8) (hx : a.eval x = .slice A m c) (hr : Reads8 w A m l)
    (hb : n + m ≤ 140737488355328) (hbase : base ≤ w.heap.size)
    (h : ∀ v' w', w'.ownsRow base e 1 v' (n + m) (bcells (xs ++ l)) → w.grownBy w' v.ownBlock → (v' = .slice none 0 0 ↔ v = .slice none 0 0 ∧ m = 0) → (v'.ownBlock = v.ownBlock ∨ v'.ownBlock = some w.heap.size) → K (a.put o.dst v') w') :
    o.wp P a w K Q := by
  obtain ⟨i0, hi, hz0, hz1, hz2⟩ := info_parts hinfo
  cases A with
  | some ad =>
    obtain ⟨v', w', hrun, h2, h3, h4, h5⟩ := run_append_own_at (P := P) w base t o.type e i0 (.int .u8 0) 1 1 ht hi hz0 hz1 hz2 rfl (by omega) v n (bcells xs) hown ad m c (bcells l) (by rw [bcells_length, hr.1]; omega) (fun j u hj => by
      have hjl : j < l.length := by
        have := (List.getElem?_eq_some_iff.1 hj).1
        simpa [bcells_length] using this
      obtain ⟨b, o, e, _, hc⟩ := hr.2 (by have := hr.1; omega)
      injection e with e
      subst e
      rw [bcells_get hjl] at hj
      injection hj with hj
      subst hj
      rw [Addr.add_lit']
      exact hc j hjl) (bcells_one l) (by simp only [maxLen]; omega) (by omega) hbase
    unfold Oper.wp execOp
    simp only [ho, resolve, invoke, builtin, Sem.run_bind, Sem.run_pure, Result.andThen_ok, List.map_toArray, List.map_cons, List.map_nil, hs, hx, hrun]
    exact h v' w' (by rw [bcells_append]; exact h2) h3 h4 h5
  | none =>
    have hm : m = 0 := by
      rcases Nat.eq_zero_or_pos m with h0 | h0
      · exact h0
      · obtain ⟨b, o, e, _⟩ := hr.2 h0
        cases e
    subst hm
    have hl : l = [] := List.eq_nil_of_length_eq_zero hr.1
    subst hl
    have hrun : (Builtin.append_ #[t, t] o.type #[v, .slice none 0 c]).run P w = .ok v w := by
      rcases hown.2 with ⟨rfl, rfl⟩ | ⟨g, cap, cur, rfl, _, _, hnc, _⟩
      · simp [Builtin.append_, run_underlying ht, sizeOf, typeInfo, hi, Builtin.lenOf, Builtin.firstCells]
      · simp [Builtin.append_, run_underlying ht, sizeOf, typeInfo, hi, Builtin.lenOf, Builtin.firstCells, hnc, storeCells]
    unfold Oper.wp execOp
    simp only [ho, resolve, invoke, builtin, Sem.run_bind, Sem.run_pure, Result.andThen_ok, List.map_toArray, List.map_cons, List.map_nil, hs, hx, hrun]
    exact h v w (by simpa using hown) (World.grownBy.refl _ _) (by simp) (.inl rfl)

theorem wpList_append8 {ops : Array Oper} {rest : List Oper} {o : Oper} {a : Act} {Q : Exit → Act → World → Prop} (hgd : o.guard = none) (s x : Operand) (t : TypeId)
    (ho : o.op = .call { callee := .builtin .append, args := #[s, x], argTypes := #[t, t] })
    (base : Nat) (e : TypeId) (ht : P.underlying t = some (.slice e)) (hinfo : (P.info? e).map (fun i => (i.zero, i.size, i.bytes)) = some (some (.int .u8 0), 1, 1))
    (v : Value) (n : Nat) (xs : List UInt8) (hs : a.eval s = v) (hown : w.ownsRow base e 1 v n (bcells xs))
    (A : Option Addr) (m c : Nat) (l : List UInt8) (hx : a.eval x = .slice A m c) (hr : Reads8 w A m l)
    (hb : n + m ≤ 140737488355328) (hbase : base ≤ w.heap.size)
    (h : ∀ v' w', w'.ownsRow base e 1 v' (n + m) (bcells (xs ++ l)) → w.grownBy w' v.ownBlock → (v' = .slice none 0 0 ↔ v = .slice none 0 0 ∧ m = 0) → (v'.ownBlock = v.ownBlock ∨ v'.ownBlock = some w.heap.size) → wpList P ops Q rest (a.put o.dst v') w') :
    wpList P ops Q (o :: rest) a w :=
  wpList_plain hgd fun _ hK => wp_append8 s x t ho base e ht hinfo v n xs hs hown A m c l hx hr hb hbase fun v' w' h1 h2 h3 h4 => hK _ _ (h v' w' h1 h2 h3 h4)

theorem step_append8 {ops : Array Oper} {o : Oper} {a : Act} {K : Act → World → Prop} {Q : Exit → Act → World → Prop} {E : Prop} (hgd : o.guard = none) (s x : Operand) (t : TypeId)
    (ho : o.op = .call { callee := .builtin .append, args := #[s, x], argTypes := #[t, t] })
    (base : Nat) (e : TypeId) (ht : P.underlying t = some (.slice e)) (hinfo : (P.info? e).map (fun i => (i.zero, i.size, i.bytes)) = some (some (.int .u8 0), 1, 1))
    (v : Value) (n : Nat) (xs : List UInt8) (hs : a.eval s = v) (hown : w.ownsRow base e 1 v n (bcells xs))
    (A : Option Addr) (m c : Nat) (l : List UInt8) (hx : a.eval x = .slice A m c) (hr : Reads8 w A m l)
    (hb : n + m ≤ 140737488355328) (hbase : base ≤ w.heap.size)
    (h : ∀ v' w', w'.ownsRow base e 1 v' (n + m) (bcells (xs ++ l)) → w.grownBy w' v.ownBlock → (v' = .slice none 0 0 ↔ v = .slice none 0 0 ∧ m = 0) → (v'.ownBlock = v.ownBlock ∨ v'.ownBlock = some w.heap.size) → K (a.put o.dst v') w') :
    if Region.wanted o (yielded ops a.tmps) = true then Oper.wp P o a w K Q else E := by
  have hw : Region.wanted o (yielded ops a.tmps) = true := by simp [Region.wanted, hgd]
  rw [if_pos hw]
  exact wp_append8 s x t ho base e ht hinfo v n xs hs hown A m c l hx hr hb hbase h
end

theorem u8info : (Try.prog.info? 5).map (fun i => (i.zero, i.size, i.bytes)) = some (some (.int .u8 0), 1, 1) := by kernel_rfl

/-- bytes.Clone, of what is not nil. -/
theorem clone_any (b o n c : Nat) (l : List UInt8) (w : World) (h : Reads8 w (some ⟨b, o, none⟩) n l) (hn : n ≤ 140737488355328) :
    Calls Try.prog 46 #[.slice (some ⟨b, o, none⟩) n c] w fun e w' => ∃ v, e = .returned v ∧ Fresh8 w w' v l := by
  have q := fun (w : World) (a : Option Addr) (n c n' c' : Nat) => Lib.run_eql_slice_nil (P := Try.prog) w 28 _ a n c n' c' Try.underlying28
  have hl := Lib.hid h.1
  have HR := Lib.hid h; clear h
  go_enter Try.func46, Try.ntmps46
  go_wp2_with (at_builtin; refine wpList_append8 rfl _ _ 28 rfl w.heap.size 5 Try.underlying28 u8info _ 0 [] rfl (World.ownsRow_lit w #[] 0 (Nat.le_refl _) (Nat.zero_le _) rfl) (some ⟨b, o, none⟩) n c l rfl (HR.out.keep ((Below.refl _ _).alloc (Nat.le_refl _) _)) (by omega) (by simp) ?_)
  intro v' w1 hown hgrow hnil hat
  try simp only [Nat.zero_add, List.nil_append] at hown
  have hb : Below w.heap.size w w1 := ((Below.refl _ _).alloc (Nat.le_refl _) _).grown hgrow (by simp) (by intro k hk; simp [Value.ownBlock] at hk; omega)
  clear hgrow hat q
  have hne : v' ≠ .slice none 0 0 := hnil
  clear hnil
  have HO := Lib.hid hown; clear hown
  go_wp2
  go_ret
  refine ⟨v', rfl, Fresh8.of_own (e := 5) (by rw [hl.out]; exact HO.out) hne hb⟩

/-- A list of noughts, laid anew. -/
theorem made_cells (n : Nat) : (madeCells #[Value.int .u8 0] n).toList = bcells (List.replicate n 0) := by
  rw [toList_madeCells_one]
  simp [bcells]

theorem toList_made {w : World} {g n : Nat} {e : TypeId} {base : Nat} (h : w.ownsRow base e 1 (.slice (some ⟨g, 0, none⟩) n n) n (madeCells #[Value.int .u8 0] n).toList) : Mem8 w g 0 n (List.replicate n 0) := by
  rw [made_cells] at h
  refine ⟨by simp, (h.lt g rfl).2, fun j hj => ?_, fun j hj => ?_⟩
  · simp at hj
    rw [Nat.zero_add, h.cellAt j (by omega), bcells_get (by simpa using hj)]
  · rw [Nat.zero_add]; exact h.frozenAt j

set_option maxHeartbeats 400000 in
/-- Bytes: of a number the last ones, and whether there are no more. -/
theorem rbytes_any (N size : Nat) (w : World) (hs : size ≤ 8) (hN : N < 18446744073709551616) :
    Calls Try.prog 27 #[.int .u64 (N : Int), .int .i64 (size : Int)] w fun e w' => ∃ v, e = .returned (.tuple #[v, .bool (decide (N / 256 ^ size = 0))]) ∧ Fresh8 w w' v (be N size) := by
  obtain ⟨i0, hi, hz0, hz1, hz2⟩ := info_parts u8info
  go_enter Try.func27, Try.ntmps27
  go_wp2_with (at_make; refine wpList_make_full _ rfl _ _ 28 rfl w.heap.size 5 i0 (.int .u8 0) 1 Try.underlying28 hi hz0 hz1 .i64 .i64 _ _ size rfl rfl rfl rfl (by rw [hz2]; omega) (by simp only [maxLen]; omega) (Nat.le_refl _) ?_)
  intro w1 hown hgrow
  have hb1 : Below w.heap.size w w1 := (Below.refl _ _).grown hgrow (Nat.le_refl _) (by intro k hk; cases hk)
  have hm := toList_made hown
  clear hown hgrow hi hz0 hz1 hz2 i0
  have HB := Lib.hid hb1; clear hb1
  have HM := Lib.hid hm; clear hm
  go_wp2
  go_loopw [0, 7] (fun t i wr => ∃ k : Nat, k ≤ size ∧ i = .int .i64 ((size : Int) - 1 - k) ∧ t = .int .u64 ((N / 256 ^ k : Nat) : Int) ∧ Wrote w1 wr w.heap.size (size - k) size ∧ (∀ j, j < k → wr.cell? ⟨w.heap.size, size - 1 - j, none⟩ = some (.int .u8 ((UInt8.ofNat (N / 256 ^ j)).toNat : Int)))) (fun _ i _ => (intOf i + 1).toNat)
  case atStart => exact ⟨0, Nat.zero_le _, by simp, by simp, Wrote.refl _ _ _ _, fun j hj => absurd hj (Nat.not_lt_zero _)⟩
  case round =>
    obtain ⟨k, hk, rfl, rfl, hwr, hdone⟩ := hrel
    have HW := Lib.hid hwr; clear hwr
    have HD := Lib.hid hdone; clear hdone
    have hNk : N / 256 ^ k ≤ N := Nat.div_le_self _ _
    have hNs : N / 256 ^ k / 256 = N / 256 ^ (k + 1) := by rw [Nat.div_div_eq_div_mul, Nat.pow_succ]
    have hby : N / 256 ^ k % 256 = (UInt8.ofNat (N / 256 ^ k)).toNat := by simp
    generalize hMk : N / 256 ^ k = M at *
    have HMk := Lib.hid hMk; clear hMk
    have HNs := Lib.hid hNs; clear hNs
    have Hby := Lib.hid hby; clear hby
    by_cases hlt : k < size
    · have hf : wr.frozen? ⟨w.heap.size, size - 1 - k, none⟩ = false := by
        rw [HW.out.frz]; have := HM.out.free (size - 1 - k) (by simp; omega); simpa using this
      have hc : wr.cell? ⟨w.heap.size, size - 1 - k, none⟩ = some (.int .u8 0) := by
        rw [HW.out.cell _ (by omega)]; have := HM.out.cell (size - 1 - k) (by simp; omega); simpa using this
      go_wp2
      go_roundw
      case rel =>
        refine ⟨k + 1, by omega, vint (by omega), vint (by rw [← HNs.out]; omega), (HW.out.mono (by omega) (by omega)).trans ((Wrote.set _ _ _ _).mono (by omega) (by omega)), ?_⟩
        intro j hj
        by_cases e : j = k
        · subst e
          rw [HMk.out, ← Hby.out]
          exact World.cell?_setCell_same' _ _ _ (by rw [hc]; rfl)
        · rw [World.cell?_setCell_other wr ⟨w.heap.size, size - 1 - k, none⟩ ⟨w.heap.size, size - 1 - j, none⟩ _ (fun e => by injection e with _ e2; omega)]
          exact HD.out j (by omega)
      case measure => simp [intOf]; omega
    · have hks : k = size := by omega
      subst hks
      go_wp2
      go_ret2
      refine ⟨.slice (some ⟨w.heap.size, 0, none⟩) k k, ?_, w.heap.size, k, by rw [be_length], Nat.le_refl _, by rw [be_length]; omega, by simp only [maxLen]; omega, ?_, HB.out.trans (HW.out.below (Nat.le_refl _))⟩
      · rw [HMk.out]
        have hbq : ((M : Int) == 0) = decide (M = 0) := by rw [Bool.eq_iff_iff]; simp
        rw [← hbq]
        rfl
      · rw [be_length]
        refine ⟨be_length _ _, by rw [HW.out.size]; exact HM.out.lt, fun j hj => ?_, fun j hj => ?_⟩
        · rw [be_length] at hj
          have := HD.out (k - 1 - j) (by omega)
          rw [show k - 1 - (k - 1 - j) = j by omega] at this
          rw [Nat.zero_add, this]
          have g := be_get N k (k - 1 - j) (by omega)
          rw [show k - 1 - (k - 1 - j) = j by omega, List.getElem?_eq_getElem (by rw [be_length]; omega)] at g
          injection g with g
          rw [g]
        · rw [be_length] at hj
          rw [HW.out.frz]
          exact HM.out.free _ (by simp; omega)

end Go.Proofs.Ytfnoeligaapnbaa
