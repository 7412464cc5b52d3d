/-
  No cell of these rows narrows 'for every input' (looked for: loops, veiled, ifaces, maps, wideKeys, modest, calm, conditions, laid).
  DERIVED. THE GIVEN ROWS OF THIS SEAT. 7 by the template 'for every input the law returns true; each argument reads behind the call as it read before'; 0 by the template 'total and deterministic' (their statements: YtfnoeligaapnbaaTotals.lean).
  GIVEN WITH THE SEED: the statements are not yours to turn. If you find one false, say at which input.
  Laid BY PROGRAM, IN A SANDBOX (cutbox-rows.mjs): the forced cells as the released guide's own fill.sh prints them over the translation 33876f1c75fb9e6e… (all of the seat's roots in one cut). By AI agents, Wed Nov 11 2026. No macro, syntax, notation, axiom, sorry.
-/
import Derived.Test.YtfnoeligaapnbaaChecked
import GoSem.Claim
import GoSem.ClaimJoined
import GoSem.ClaimMapViews
import Derived.JoinedTies
import Derived.KernelRfl
namespace Go.Proofs.Ytfnoeligaapnbaa
/- THE CELL 'sum', in the pinned program and in every row, IS THE sha256 OF THE DUMP (.gsa) THAT YtfnoeligaapnbaaProg.lean LOADS. Nothing in Lean hashes anything: it is a label: what it is worth is what the hold of that sum in a sandbox is worth. -/
noncomputable def Try.pinned : Pinned := { name := "ytfnoeligaapnbaa", sum := "33876f1c75fb9e6e0c2063480d89769871719c06e554c6306e2e2e8cb0404569", checked := Try.checked }
namespace Rows
def none {H : Type} : Left H := { results := [], args := [] }

/-- 'catchmentlaw06.SuperTells': WHATEVER THE INPUT: true; the input reads as it did. -/
def superTellsSpec : ChangeSpec := { name := "superTells", fn := fun _ => fun
  | [d1, d2, d3] => { results := [.lit (.bool true)], args := [d1, d2, d3] }
  | _ => none }
def superTellsRow : OpenClaim := { program := "ytfnoeligaapnbaa", sum := "33876f1c75fb9e6e0c2063480d89769871719c06e554c6306e2e2e8cb0404569", func := "catchment/catchmentlaw06.SuperTells", spec := "superTells", unfollowed := true, recurses := true, apart := false }
def SuperTellsSaid : Prop := superTellsRow.holds Try.pinned (OpenSpec.ofChange superTellsSpec)

/-- ITS FALSE NEIGHBOUR: 'it returns false'. Refute it at one input. -/
def superTellsWrong : ChangeSpec := { name := "superTells", fn := fun _ => fun
  | [d1, d2, d3] => { results := [.lit (.bool false)], args := [d1, d2, d3] }
  | _ => none }
def SuperTellsWrongFalsely : Prop := superTellsRow.holds Try.pinned (OpenSpec.ofChange superTellsWrong)

/-- 'catchmentlaw06.SuperBack': WHATEVER THE INPUT: true; the input reads as it did. -/
def superBackSpec : ChangeSpec := { name := "superBack", fn := fun _ => fun
  | [d1, d2] => { results := [.lit (.bool true)], args := [d1, d2] }
  | _ => none }
def superBackRow : OpenClaim := { program := "ytfnoeligaapnbaa", sum := "33876f1c75fb9e6e0c2063480d89769871719c06e554c6306e2e2e8cb0404569", func := "catchment/catchmentlaw06.SuperBack", spec := "superBack", unfollowed := true, recurses := true, apart := false }
def SuperBackSaid : Prop := superBackRow.holds Try.pinned (OpenSpec.ofChange superBackSpec)

/-- ITS FALSE NEIGHBOUR: 'it returns false'. Refute it at one input. -/
def superBackWrong : ChangeSpec := { name := "superBack", fn := fun _ => fun
  | [d1, d2] => { results := [.lit (.bool false)], args := [d1, d2] }
  | _ => none }
def SuperBackWrongFalsely : Prop := superBackRow.holds Try.pinned (OpenSpec.ofChange superBackWrong)

/-- 'catchmentlaw06.SuperPages': WHATEVER THE INPUT: true; the input reads as it did. -/
def superPagesSpec : ChangeSpec := { name := "superPages", fn := fun _ => fun
  | [d1, d2] => { results := [.lit (.bool true)], args := [d1, d2] }
  | _ => none }
def superPagesRow : OpenClaim := { program := "ytfnoeligaapnbaa", sum := "33876f1c75fb9e6e0c2063480d89769871719c06e554c6306e2e2e8cb0404569", func := "catchment/catchmentlaw06.SuperPages", spec := "superPages", unfollowed := true, recurses := true, apart := false }
def SuperPagesSaid : Prop := superPagesRow.holds Try.pinned (OpenSpec.ofChange superPagesSpec)

/-- ITS FALSE NEIGHBOUR: 'it returns false'. Refute it at one input. -/
def superPagesWrong : ChangeSpec := { name := "superPages", fn := fun _ => fun
  | [d1, d2] => { results := [.lit (.bool false)], args := [d1, d2] }
  | _ => none }
def SuperPagesWrongFalsely : Prop := superPagesRow.holds Try.pinned (OpenSpec.ofChange superPagesWrong)

/-- 'catchmentlaw06.SuperNext': WHATEVER THE INPUT: true; the input reads as it did. -/
def superNextSpec : ChangeSpec := { name := "superNext", fn := fun _ => fun
  | [d1, d2, d3, d4, d5] => { results := [.lit (.bool true)], args := [d1, d2, d3, d4, d5] }
  | _ => none }
def superNextRow : OpenClaim := { program := "ytfnoeligaapnbaa", sum := "33876f1c75fb9e6e0c2063480d89769871719c06e554c6306e2e2e8cb0404569", func := "catchment/catchmentlaw06.SuperNext", spec := "superNext", unfollowed := true, recurses := true, apart := false }
def SuperNextSaid : Prop := superNextRow.holds Try.pinned (OpenSpec.ofChange superNextSpec)

/-- ITS FALSE NEIGHBOUR: 'it returns false'. Refute it at one input. -/
def superNextWrong : ChangeSpec := { name := "superNext", fn := fun _ => fun
  | [d1, d2, d3, d4, d5] => { results := [.lit (.bool false)], args := [d1, d2, d3, d4, d5] }
  | _ => none }
def SuperNextWrongFalsely : Prop := superNextRow.holds Try.pinned (OpenSpec.ofChange superNextWrong)

/-- 'catchmentlaw06.SuperSlots': WHATEVER THE INPUT: true; the input reads as it did. -/
def superSlotsSpec : ChangeSpec := { name := "superSlots", fn := fun _ => fun
  | [d1, d2] => { results := [.lit (.bool true)], args := [d1, d2] }
  | _ => none }
def superSlotsRow : OpenClaim := { program := "ytfnoeligaapnbaa", sum := "33876f1c75fb9e6e0c2063480d89769871719c06e554c6306e2e2e8cb0404569", func := "catchment/catchmentlaw06.SuperSlots", spec := "superSlots", unfollowed := true, recurses := true, apart := false }
def SuperSlotsSaid : Prop := superSlotsRow.holds Try.pinned (OpenSpec.ofChange superSlotsSpec)

/-- ITS FALSE NEIGHBOUR: 'it returns false'. Refute it at one input. -/
def superSlotsWrong : ChangeSpec := { name := "superSlots", fn := fun _ => fun
  | [d1, d2] => { results := [.lit (.bool false)], args := [d1, d2] }
  | _ => none }
def SuperSlotsWrongFalsely : Prop := superSlotsRow.holds Try.pinned (OpenSpec.ofChange superSlotsWrong)

/-- 'catchmentlaw06.SuperPick': WHATEVER THE INPUT: true; the input reads as it did. -/
def superPickSpec : ChangeSpec := { name := "superPick", fn := fun _ => fun
  | [d1, d2, d3] => { results := [.lit (.bool true)], args := [d1, d2, d3] }
  | _ => none }
def superPickRow : OpenClaim := { program := "ytfnoeligaapnbaa", sum := "33876f1c75fb9e6e0c2063480d89769871719c06e554c6306e2e2e8cb0404569", func := "catchment/catchmentlaw06.SuperPick", spec := "superPick", unfollowed := true, recurses := true, apart := false }
def SuperPickSaid : Prop := superPickRow.holds Try.pinned (OpenSpec.ofChange superPickSpec)

/-- ITS FALSE NEIGHBOUR: 'it returns false'. Refute it at one input. -/
def superPickWrong : ChangeSpec := { name := "superPick", fn := fun _ => fun
  | [d1, d2, d3] => { results := [.lit (.bool false)], args := [d1, d2, d3] }
  | _ => none }
def SuperPickWrongFalsely : Prop := superPickRow.holds Try.pinned (OpenSpec.ofChange superPickWrong)

/-- 'catchmentlaw06.SuperTorn': WHATEVER THE INPUT: true; the input reads as it did. -/
def superTornSpec : ChangeSpec := { name := "superTorn", fn := fun _ => fun
  | [d1, d2] => { results := [.lit (.bool true)], args := [d1, d2] }
  | _ => none }
def superTornRow : OpenClaim := { program := "ytfnoeligaapnbaa", sum := "33876f1c75fb9e6e0c2063480d89769871719c06e554c6306e2e2e8cb0404569", func := "catchment/catchmentlaw06.SuperTorn", spec := "superTorn", unfollowed := true, recurses := true, apart := false }
def SuperTornSaid : Prop := superTornRow.holds Try.pinned (OpenSpec.ofChange superTornSpec)

/-- ITS FALSE NEIGHBOUR: 'it returns false'. Refute it at one input. -/
def superTornWrong : ChangeSpec := { name := "superTorn", fn := fun _ => fun
  | [d1, d2] => { results := [.lit (.bool false)], args := [d1, d2] }
  | _ => none }
def SuperTornWrongFalsely : Prop := superTornRow.holds Try.pinned (OpenSpec.ofChange superTornWrong)

/- THE SECOND FORM. 'bulk': how many values and letters a reading holds, each counted each time it is reached (what is shared counts as often as it is met; a slice's spare places count too). A statement '..UptoSaid' is the law's where the arguments, and the package variables that the reading takes, are together of bulk at most 1048576: NARROWER than '..Said'. Prove '..Said' where nothing that the law and all that it calls make is longer than what came in: it says more and counts as full. Else prove '..UptoSaid'. A law counts once. -/
mutual
def uptoBulk {H : Type} : DataW H → Nat
  | .lit (.string bytes) => bytes.length + 1
  | .lit _ => 1
  | .nil => 1
  | .ptr d => uptoBulk d + 1
  | .slice elems spare => uptoBulkAll elems + uptoBulkAll spare + 1
  | .agg parts => uptoBulkAll parts + 1
  | .iface _ d => uptoBulk d + 1
  | .map entries => uptoBulkEntries entries + 1
  | .held _ => 1
def uptoBulkAll {H : Type} : List (DataW H) → Nat
  | [] => 0
  | d :: r => uptoBulk d + uptoBulkAll r
def uptoBulkEntries {H : Type} : List (Lit × DataW H) → Nat
  | [] => 0
  | x :: r => uptoBulkEntry x + uptoBulkEntries r
def uptoBulkEntry {H : Type} : Lit × DataW H → Nat
  | (.string bytes, d) => bytes.length + uptoBulk d + 1
  | (_, d) => uptoBulk d + 1
 end
def uptoSmall : (H : Type) → List (DataW H) → Bool := fun _ ds => decide (uptoBulkAll ds ≤ 1048576)
def OpenSpec.upto (s : _root_.Go.ChangeSpec) : _root_.Go.OpenSpec := { _root_.Go.OpenSpec.ofChange s with cond := some uptoSmall }

/-- 'catchmentlaw06.SuperTells', WHERE WHAT IT READS IS OF BULK AT MOST 1048576: true; the input reads as it did. -/
def superTellsUptoRow : OpenClaim := { program := "ytfnoeligaapnbaa", sum := "33876f1c75fb9e6e0c2063480d89769871719c06e554c6306e2e2e8cb0404569", func := "catchment/catchmentlaw06.SuperTells", spec := "superTells", unfollowed := true, recurses := true, apart := false, narrowed := true }
def SuperTellsUptoSaid : Prop := superTellsUptoRow.holds Try.pinned (OpenSpec.upto superTellsSpec)

/-- 'catchmentlaw06.SuperBack', WHERE WHAT IT READS IS OF BULK AT MOST 1048576: true; the input reads as it did. -/
def superBackUptoRow : OpenClaim := { program := "ytfnoeligaapnbaa", sum := "33876f1c75fb9e6e0c2063480d89769871719c06e554c6306e2e2e8cb0404569", func := "catchment/catchmentlaw06.SuperBack", spec := "superBack", unfollowed := true, recurses := true, apart := false, narrowed := true }
def SuperBackUptoSaid : Prop := superBackUptoRow.holds Try.pinned (OpenSpec.upto superBackSpec)

/-- 'catchmentlaw06.SuperPages', WHERE WHAT IT READS IS OF BULK AT MOST 1048576: true; the input reads as it did. -/
def superPagesUptoRow : OpenClaim := { program := "ytfnoeligaapnbaa", sum := "33876f1c75fb9e6e0c2063480d89769871719c06e554c6306e2e2e8cb0404569", func := "catchment/catchmentlaw06.SuperPages", spec := "superPages", unfollowed := true, recurses := true, apart := false, narrowed := true }
def SuperPagesUptoSaid : Prop := superPagesUptoRow.holds Try.pinned (OpenSpec.upto superPagesSpec)

/-- 'catchmentlaw06.SuperNext', WHERE WHAT IT READS IS OF BULK AT MOST 1048576: true; the input reads as it did. -/
def superNextUptoRow : OpenClaim := { program := "ytfnoeligaapnbaa", sum := "33876f1c75fb9e6e0c2063480d89769871719c06e554c6306e2e2e8cb0404569", func := "catchment/catchmentlaw06.SuperNext", spec := "superNext", unfollowed := true, recurses := true, apart := false, narrowed := true }
def SuperNextUptoSaid : Prop := superNextUptoRow.holds Try.pinned (OpenSpec.upto superNextSpec)

/-- 'catchmentlaw06.SuperSlots', WHERE WHAT IT READS IS OF BULK AT MOST 1048576: true; the input reads as it did. -/
def superSlotsUptoRow : OpenClaim := { program := "ytfnoeligaapnbaa", sum := "33876f1c75fb9e6e0c2063480d89769871719c06e554c6306e2e2e8cb0404569", func := "catchment/catchmentlaw06.SuperSlots", spec := "superSlots", unfollowed := true, recurses := true, apart := false, narrowed := true }
def SuperSlotsUptoSaid : Prop := superSlotsUptoRow.holds Try.pinned (OpenSpec.upto superSlotsSpec)

/-- 'catchmentlaw06.SuperPick', WHERE WHAT IT READS IS OF BULK AT MOST 1048576: true; the input reads as it did. -/
def superPickUptoRow : OpenClaim := { program := "ytfnoeligaapnbaa", sum := "33876f1c75fb9e6e0c2063480d89769871719c06e554c6306e2e2e8cb0404569", func := "catchment/catchmentlaw06.SuperPick", spec := "superPick", unfollowed := true, recurses := true, apart := false, narrowed := true }
def SuperPickUptoSaid : Prop := superPickUptoRow.holds Try.pinned (OpenSpec.upto superPickSpec)

/-- 'catchmentlaw06.SuperTorn', WHERE WHAT IT READS IS OF BULK AT MOST 1048576: true; the input reads as it did. -/
def superTornUptoRow : OpenClaim := { program := "ytfnoeligaapnbaa", sum := "33876f1c75fb9e6e0c2063480d89769871719c06e554c6306e2e2e8cb0404569", func := "catchment/catchmentlaw06.SuperTorn", spec := "superTorn", unfollowed := true, recurses := true, apart := false, narrowed := true }
def SuperTornUptoSaid : Prop := superTornUptoRow.holds Try.pinned (OpenSpec.upto superTornSpec)

end Rows
end Go.Proofs.Ytfnoeligaapnbaa
