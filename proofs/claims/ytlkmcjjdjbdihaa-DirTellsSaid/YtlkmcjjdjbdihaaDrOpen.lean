/-
  Numbers and a directory that come in, opened.
-/
import Derived.Test.YtlkmcjjdjbdihaaDrJ
import Derived.Lib.SmallJoins
import Derived.OpenShut
import Derived.ChangeSlices
namespace Go.Proofs.Ytlkmcjjdjbdihaa
open Go.ChangeShapes Go.WideShapes Go.ChangeAt Go.RowKit Go.Joins
set_option linter.unusedVariables false

theorem addr_lit (b o j : Nat) : (⟨b, o, none⟩ : Addr).add j = ⟨b, o + j, none⟩ := by unfold Addr.add; split <;> simp_all
theorem wf_u64 {n : Int} (h : (Lit.int .u64 n).wf = true) : 0 ≤ n ∧ n < 18446744073709551616 := by
  simp [Lit.wf, IntKind.min, IntKind.max, IntKind.signed, IntKind.bits] at h
  omega
theorem wf_u16 {n : Int} (h : (Lit.int .u16 n).wf = true) : 0 ≤ n ∧ n < 65536 := by
  simp [Lit.wf, IntKind.min, IntKind.max, IntKind.signed, IntKind.bits] at h
  omega
theorem wf_u8 {n : Int} (h : (Lit.int .u8 n).wf = true) : 0 ≤ n ∧ n < 256 := by
  simp [Lit.wf, IntKind.min, IntKind.max, IntKind.signed, IntKind.bits] at h
  omega
theorem u8_of {a : Int} (h : (Lit.int .u8 a).wf = true) : ∃ u : UInt8, a = (u.toNat : Int) := by
  have hb := wf_u8 h
  refine ⟨UInt8.ofNat a.toNat, ?_⟩
  simp
  omega
theorem u16_of {a : Int} (h : (Lit.int .u16 a).wf = true) : ∃ u : UInt16, a = (u.toNat : Int) := by
  have hb := wf_u16 h
  refine ⟨UInt16.ofNat a.toNat, ?_⟩
  simp
  omega
theorem u64_of {a : Int} (h : (Lit.int .u64 a).wf = true) : ∃ u : UInt64, a = (u.toNat : Int) := by
  have hb := wf_u64 h
  refine ⟨UInt64.ofNat a.toNat, ?_⟩
  simp
  omega

/-- What a slice of words that came in reads as. -/
theorem rdW_of_row {w : World} {a : Option Addr} {len cap : Nat} {zs : List Int}
    (h : (a = none ∧ len = 0 ∧ cap = 0 ∧ zs = []) ∨ ∃ x, a = some x ∧ len ≤ cap ∧ cap ≤ maxLen ∧ zs.length = cap ∧ (∀ i, i < zs.length → w.cell? (x.add i) = some (.int .u16 (zs.getD i 0))) ∧ ∀ n ∈ zs, (Lit.int .u16 n).wf = true) :
    ∃ l, ReadsW w a len l ∧ len ≤ cap ∧ cap ≤ maxLen := by
  rcases h with ⟨rfl, rfl, rfl, rfl⟩ | ⟨x, rfl, hl, hm, hz, hc, hw⟩
  · exact ⟨[], ReadsW.nil _ _, Nat.le_refl _, Nat.zero_le _⟩
  · refine ⟨(zs.take len).map (fun n => UInt16.ofNat n.toNat), ⟨by simp; omega, fun h0 => ?_⟩, hl, hm⟩
    obtain ⟨b, o, spot⟩ := x
    rw [wcells_length] at h0
    have hlen0 : 0 < len := by simp at h0; omega
    have h0' := hc 0 (by omega)
    have hspot : spot = none := by simpa [Addr.add] using World.cell?_spot h0'
    subst hspot
    refine ⟨b, o, rfl, ?_, fun j hj => ?_⟩
    · have := World.block_lt_of_cell? w _ h0'
      simpa [Addr.add] using this
    · have hj' : j < len := by rw [wcells_length] at hj; simp at hj; omega
      have h1 := hc j (by omega)
      rw [addr_lit] at h1
      rw [h1]
      have hmem : zs.getD j 0 ∈ zs := by
        rw [List.getD_eq_getElem?_getD, List.getElem?_eq_getElem (by omega)]
        exact List.getElem_mem _
      have hwf := hw _ hmem
      simp [Lit.wf, IntKind.min, IntKind.max, IntKind.signed, IntKind.bits] at hwf
      simp [wcells, List.getElem_map, List.getElem_take]
      rw [List.getElem?_eq_getElem (by omega)] at hwf ⊢
      simp at hwf ⊢
      omega

theorem cellsDir : Try.prog.cellsOf 24 = 2 := by kernel_rfl
theorem open_dir {H : Type} {enc : TypeId × Value → H} {W : World} {b0 : Nat} {v : Value} {d : DataW H} {p : List MemPlace}
    (hv : Value.okWide Try.prog W .any b0 24 v) (h : DataW.Trod enc Try.prog W 0 (fun _ => true) true 24 v d p) :
    ∃ (s : Dir) (A : Option Addr) (n c : Nat), v = dval s A n c ∧ ReadsW W A n s.slots ∧ n ≤ c ∧ c ≤ maxLen := by
  obtain ⟨c0, c2, y0, y2, m, rfl, _, _, hy0, hy2⟩ := open_agg2 Try.underlying24 (by kernel_rfl) cellsDir hv h
  obtain ⟨x0, e0', _, f0⟩ := DataW.trod_int Try.underlying5 hy0
  simp at e0'
  subst e0'
  have b8 := wf_u8 f0
  have key : ∃ l A n c, c2 = .slice A n c ∧ ReadsW W A n l ∧ n ≤ c ∧ c ≤ maxLen := by
    rcases open_ints Try.underlying22 Try.underlying26 (by kernel_rfl) hy2 with ⟨hcs, _⟩ | ⟨x, l, c, zs, hcs, _, hl, hm, hz, _, hcell, hwz⟩
    · simp at hcs
      subst hcs
      exact ⟨[], none, 0, 0, rfl, ReadsW.nil _ _, Nat.le_refl _, Nat.zero_le _⟩
    · simp at hcs
      subst hcs
      obtain ⟨k, h1, h2, h3⟩ := rdW_of_row (w := W) (zs := zs) (.inr ⟨_, rfl, hl, hm, by simpa using hz, hcell, hwz⟩)
      exact ⟨k, _, _, _, rfl, h1, h2, h3⟩
  obtain ⟨l, A, n, c, rfl, hr, hnc, hcm⟩ := key
  refine ⟨⟨UInt8.ofNat x0.toNat, l⟩, A, n, c, ?_, hr, hnc, hcm⟩
  unfold dval
  have g0 : ((UInt8.ofNat x0.toNat).toNat : Int) = x0 := by simp; omega
  rw [g0]

end Go.Proofs.Ytlkmcjjdjbdihaa
