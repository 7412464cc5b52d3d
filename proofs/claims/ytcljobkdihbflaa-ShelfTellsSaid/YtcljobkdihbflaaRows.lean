/-
  No cell of these rows narrows 'for every input' (looked for: loops, veiled, ifaces, maps, wideKeys, modest, calm, conditions, laid).
  DERIVED. THE GIVEN ROWS OF THIS SEAT. 5 by the template 'for every input the law returns true; each argument reads behind the call as it read before'; 0 by the template 'total and deterministic' (their statements: YtcljobkdihbflaaTotals.lean).
  GIVEN WITH THE SEED: the statements are not yours to turn. If you find one false, say at which input.
  Laid BY PROGRAM, IN A SANDBOX (cutbox-rows.mjs): the forced cells as the released guide's own fill.sh prints them over the translation 77663ce1a886cf24… (all of the seat's roots in one cut). By AI agents, Wed Nov 11 2026. No macro, syntax, notation, axiom, sorry.
-/
import Derived.Test.YtcljobkdihbflaaChecked
import GoSem.Claim
import GoSem.ClaimJoined
import GoSem.ClaimMapViews
import Derived.JoinedTies
import Derived.KernelRfl
namespace Go.Proofs.Ytcljobkdihbflaa
/- THE CELL 'sum', in the pinned program and in every row, IS THE sha256 OF THE DUMP (.gsa) THAT YtcljobkdihbflaaProg.lean LOADS. Nothing in Lean hashes anything: it is a label: what it is worth is what the hold of that sum in a sandbox is worth. -/
noncomputable def Try.pinned : Pinned := { name := "ytcljobkdihbflaa", sum := "77663ce1a886cf24dfb5e57a40e0db0a05aeca52b248d5902ac0563ec163b3b6", checked := Try.checked }
namespace Rows
def none {H : Type} : Left H := { results := [], args := [] }

/-- 'catchmentlaw04.ShelfHalves': WHATEVER THE INPUT: true; the input reads as it did. -/
def shelfHalvesSpec : ChangeSpec := { name := "shelfHalves", fn := fun _ => fun
  | [d1, d2] => { results := [.lit (.bool true)], args := [d1, d2] }
  | _ => none }
def shelfHalvesRow : OpenClaim := { program := "ytcljobkdihbflaa", sum := "77663ce1a886cf24dfb5e57a40e0db0a05aeca52b248d5902ac0563ec163b3b6", func := "catchment/catchmentlaw04.ShelfHalves", spec := "shelfHalves", unfollowed := true, recurses := true, apart := false }
def ShelfHalvesSaid : Prop := shelfHalvesRow.holds Try.pinned (OpenSpec.ofChange shelfHalvesSpec)

/-- ITS FALSE NEIGHBOUR: 'it returns false'. Refute it at one input. -/
def shelfHalvesWrong : ChangeSpec := { name := "shelfHalves", fn := fun _ => fun
  | [d1, d2] => { results := [.lit (.bool false)], args := [d1, d2] }
  | _ => none }
def ShelfHalvesWrongFalsely : Prop := shelfHalvesRow.holds Try.pinned (OpenSpec.ofChange shelfHalvesWrong)

/-- 'catchmentlaw04.ShelfOwn': WHATEVER THE INPUT: true; the input reads as it did. -/
def shelfOwnSpec : ChangeSpec := { name := "shelfOwn", fn := fun _ => fun
  | [d] => { results := [.lit (.bool true)], args := [d] }
  | _ => none }
def shelfOwnRow : OpenClaim := { program := "ytcljobkdihbflaa", sum := "77663ce1a886cf24dfb5e57a40e0db0a05aeca52b248d5902ac0563ec163b3b6", func := "catchment/catchmentlaw04.ShelfOwn", spec := "shelfOwn", unfollowed := true, recurses := true, apart := false }
def ShelfOwnSaid : Prop := shelfOwnRow.holds Try.pinned (OpenSpec.ofChange shelfOwnSpec)

/-- ITS FALSE NEIGHBOUR: 'it returns false'. Refute it at one input. -/
def shelfOwnWrong : ChangeSpec := { name := "shelfOwn", fn := fun _ => fun
  | [d] => { results := [.lit (.bool false)], args := [d] }
  | _ => none }
def ShelfOwnWrongFalsely : Prop := shelfOwnRow.holds Try.pinned (OpenSpec.ofChange shelfOwnWrong)

/-- 'catchmentlaw04.ShelfTells': WHATEVER THE INPUT: true; the input reads as it did. -/
def shelfTellsSpec : ChangeSpec := { name := "shelfTells", fn := fun _ => fun
  | [d1, d2] => { results := [.lit (.bool true)], args := [d1, d2] }
  | _ => none }
def shelfTellsRow : OpenClaim := { program := "ytcljobkdihbflaa", sum := "77663ce1a886cf24dfb5e57a40e0db0a05aeca52b248d5902ac0563ec163b3b6", func := "catchment/catchmentlaw04.ShelfTells", spec := "shelfTells", unfollowed := true, recurses := true, apart := false }
def ShelfTellsSaid : Prop := shelfTellsRow.holds Try.pinned (OpenSpec.ofChange shelfTellsSpec)

/-- ITS FALSE NEIGHBOUR: 'it returns false'. Refute it at one input. -/
def shelfTellsWrong : ChangeSpec := { name := "shelfTells", fn := fun _ => fun
  | [d1, d2] => { results := [.lit (.bool false)], args := [d1, d2] }
  | _ => none }
def ShelfTellsWrongFalsely : Prop := shelfTellsRow.holds Try.pinned (OpenSpec.ofChange shelfTellsWrong)

/-- 'catchmentlaw04.ShelfBack': WHATEVER THE INPUT: true; the input reads as it did. -/
def shelfBackSpec : ChangeSpec := { name := "shelfBack", fn := fun _ => fun
  | [d1, d2] => { results := [.lit (.bool true)], args := [d1, d2] }
  | _ => none }
def shelfBackRow : OpenClaim := { program := "ytcljobkdihbflaa", sum := "77663ce1a886cf24dfb5e57a40e0db0a05aeca52b248d5902ac0563ec163b3b6", func := "catchment/catchmentlaw04.ShelfBack", spec := "shelfBack", unfollowed := true, recurses := true, apart := false }
def ShelfBackSaid : Prop := shelfBackRow.holds Try.pinned (OpenSpec.ofChange shelfBackSpec)

/-- ITS FALSE NEIGHBOUR: 'it returns false'. Refute it at one input. -/
def shelfBackWrong : ChangeSpec := { name := "shelfBack", fn := fun _ => fun
  | [d1, d2] => { results := [.lit (.bool false)], args := [d1, d2] }
  | _ => none }
def ShelfBackWrongFalsely : Prop := shelfBackRow.holds Try.pinned (OpenSpec.ofChange shelfBackWrong)

/-- 'catchmentlaw04.ShelfDepth': WHATEVER THE INPUT: true; the input reads as it did. -/
def shelfDepthSpec : ChangeSpec := { name := "shelfDepth", fn := fun _ => fun
  | [d1, d2] => { results := [.lit (.bool true)], args := [d1, d2] }
  | _ => none }
def shelfDepthRow : OpenClaim := { program := "ytcljobkdihbflaa", sum := "77663ce1a886cf24dfb5e57a40e0db0a05aeca52b248d5902ac0563ec163b3b6", func := "catchment/catchmentlaw04.ShelfDepth", spec := "shelfDepth", unfollowed := true, recurses := true, apart := false }
def ShelfDepthSaid : Prop := shelfDepthRow.holds Try.pinned (OpenSpec.ofChange shelfDepthSpec)

/-- ITS FALSE NEIGHBOUR: 'it returns false'. Refute it at one input. -/
def shelfDepthWrong : ChangeSpec := { name := "shelfDepth", fn := fun _ => fun
  | [d1, d2] => { results := [.lit (.bool false)], args := [d1, d2] }
  | _ => none }
def ShelfDepthWrongFalsely : Prop := shelfDepthRow.holds Try.pinned (OpenSpec.ofChange shelfDepthWrong)

/- THE SECOND FORM. 'bulk': how many values and letters a reading holds, each counted each time it is reached (what is shared counts as often as it is met; a slice's spare places count too). A statement '..UptoSaid' is the law's where the arguments, and the package variables that the reading takes, are together of bulk at most 1048576: NARROWER than '..Said'. Prove '..Said' where nothing that the law and all that it calls make is longer than what came in: it says more and counts as full. Else prove '..UptoSaid'. A law counts once. -/
mutual
def uptoBulk {H : Type} : DataW H → Nat
  | .lit (.string bytes) => bytes.length + 1
  | .lit _ => 1
  | .nil => 1
  | .ptr d => uptoBulk d + 1
  | .slice elems spare => uptoBulkAll elems + uptoBulkAll spare + 1
  | .agg parts => uptoBulkAll parts + 1
  | .iface _ d => uptoBulk d + 1
  | .map entries => uptoBulkEntries entries + 1
  | .held _ => 1
def uptoBulkAll {H : Type} : List (DataW H) → Nat
  | [] => 0
  | d :: r => uptoBulk d + uptoBulkAll r
def uptoBulkEntries {H : Type} : List (Lit × DataW H) → Nat
  | [] => 0
  | x :: r => uptoBulkEntry x + uptoBulkEntries r
def uptoBulkEntry {H : Type} : Lit × DataW H → Nat
  | (.string bytes, d) => bytes.length + uptoBulk d + 1
  | (_, d) => uptoBulk d + 1
 end
def uptoSmall : (H : Type) → List (DataW H) → Bool := fun _ ds => decide (uptoBulkAll ds ≤ 1048576)
def OpenSpec.upto (s : _root_.Go.ChangeSpec) : _root_.Go.OpenSpec := { _root_.Go.OpenSpec.ofChange s with cond := some uptoSmall }

/-- 'catchmentlaw04.ShelfHalves', WHERE WHAT IT READS IS OF BULK AT MOST 1048576: true; the input reads as it did. -/
def shelfHalvesUptoRow : OpenClaim := { program := "ytcljobkdihbflaa", sum := "77663ce1a886cf24dfb5e57a40e0db0a05aeca52b248d5902ac0563ec163b3b6", func := "catchment/catchmentlaw04.ShelfHalves", spec := "shelfHalves", unfollowed := true, recurses := true, apart := false, narrowed := true }
def ShelfHalvesUptoSaid : Prop := shelfHalvesUptoRow.holds Try.pinned (OpenSpec.upto shelfHalvesSpec)

/-- 'catchmentlaw04.ShelfOwn', WHERE WHAT IT READS IS OF BULK AT MOST 1048576: true; the input reads as it did. -/
def shelfOwnUptoRow : OpenClaim := { program := "ytcljobkdihbflaa", sum := "77663ce1a886cf24dfb5e57a40e0db0a05aeca52b248d5902ac0563ec163b3b6", func := "catchment/catchmentlaw04.ShelfOwn", spec := "shelfOwn", unfollowed := true, recurses := true, apart := false, narrowed := true }
def ShelfOwnUptoSaid : Prop := shelfOwnUptoRow.holds Try.pinned (OpenSpec.upto shelfOwnSpec)

/-- 'catchmentlaw04.ShelfTells', WHERE WHAT IT READS IS OF BULK AT MOST 1048576: true; the input reads as it did. -/
def shelfTellsUptoRow : OpenClaim := { program := "ytcljobkdihbflaa", sum := "77663ce1a886cf24dfb5e57a40e0db0a05aeca52b248d5902ac0563ec163b3b6", func := "catchment/catchmentlaw04.ShelfTells", spec := "shelfTells", unfollowed := true, recurses := true, apart := false, narrowed := true }
def ShelfTellsUptoSaid : Prop := shelfTellsUptoRow.holds Try.pinned (OpenSpec.upto shelfTellsSpec)

/-- 'catchmentlaw04.ShelfBack', WHERE WHAT IT READS IS OF BULK AT MOST 1048576: true; the input reads as it did. -/
def shelfBackUptoRow : OpenClaim := { program := "ytcljobkdihbflaa", sum := "77663ce1a886cf24dfb5e57a40e0db0a05aeca52b248d5902ac0563ec163b3b6", func := "catchment/catchmentlaw04.ShelfBack", spec := "shelfBack", unfollowed := true, recurses := true, apart := false, narrowed := true }
def ShelfBackUptoSaid : Prop := shelfBackUptoRow.holds Try.pinned (OpenSpec.upto shelfBackSpec)

/-- 'catchmentlaw04.ShelfDepth', WHERE WHAT IT READS IS OF BULK AT MOST 1048576: true; the input reads as it did. -/
def shelfDepthUptoRow : OpenClaim := { program := "ytcljobkdihbflaa", sum := "77663ce1a886cf24dfb5e57a40e0db0a05aeca52b248d5902ac0563ec163b3b6", func := "catchment/catchmentlaw04.ShelfDepth", spec := "shelfDepth", unfollowed := true, recurses := true, apart := false, narrowed := true }
def ShelfDepthUptoSaid : Prop := shelfDepthUptoRow.holds Try.pinned (OpenSpec.upto shelfDepthSpec)

end Rows
end Go.Proofs.Ytcljobkdihbflaa
