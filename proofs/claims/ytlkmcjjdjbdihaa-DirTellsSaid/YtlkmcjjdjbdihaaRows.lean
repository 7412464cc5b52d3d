/-
  No cell of these rows narrows 'for every input' (looked for: loops, veiled, ifaces, maps, wideKeys, modest, calm, conditions, laid).
  DERIVED. THE GIVEN ROWS OF THIS SEAT. 7 by the template 'for every input the law returns true; each argument reads behind the call as it read before'; 0 by the template 'total and deterministic' (their statements: YtlkmcjjdjbdihaaTotals.lean).
  GIVEN WITH THE SEED: the statements are not yours to turn. If you find one false, say at which input.
  Laid BY PROGRAM, IN A SANDBOX (cutbox-rows.mjs): the forced cells as the released guide's own fill.sh prints them over the translation bc476057496b06d6… (all of the seat's roots in one cut). By AI agents, Wed Nov 11 2026. No macro, syntax, notation, axiom, sorry.
-/
import Derived.Test.YtlkmcjjdjbdihaaChecked
import GoSem.Claim
import GoSem.ClaimJoined
import GoSem.ClaimMapViews
import Derived.JoinedTies
import Derived.KernelRfl
namespace Go.Proofs.Ytlkmcjjdjbdihaa
/- THE CELL 'sum', in the pinned program and in every row, IS THE sha256 OF THE DUMP (.gsa) THAT YtlkmcjjdjbdihaaProg.lean LOADS. Nothing in Lean hashes anything: it is a label: what it is worth is what the hold of that sum in a sandbox is worth. -/
noncomputable def Try.pinned : Pinned := { name := "ytlkmcjjdjbdihaa", sum := "bc476057496b06d6d57d9704b55ae54a23554e53b2aafe9f897c8b1d475266b3", checked := Try.checked }
namespace Rows
def none {H : Type} : Left H := { results := [], args := [] }

/-- 'catchmentlaw17.DirTells': WHATEVER THE INPUT: true; the input reads as it did. -/
def dirTellsSpec : ChangeSpec := { name := "dirTells", fn := fun _ => fun
  | [d1, d2] => { results := [.lit (.bool true)], args := [d1, d2] }
  | _ => none }
def dirTellsRow : OpenClaim := { program := "ytlkmcjjdjbdihaa", sum := "bc476057496b06d6d57d9704b55ae54a23554e53b2aafe9f897c8b1d475266b3", func := "catchment/catchmentlaw17.DirTells", spec := "dirTells", unfollowed := true, recurses := true, apart := false }
def DirTellsSaid : Prop := dirTellsRow.holds Try.pinned (OpenSpec.ofChange dirTellsSpec)

/-- ITS FALSE NEIGHBOUR: 'it returns false'. Refute it at one input. -/
def dirTellsWrong : ChangeSpec := { name := "dirTells", fn := fun _ => fun
  | [d1, d2] => { results := [.lit (.bool false)], args := [d1, d2] }
  | _ => none }
def DirTellsWrongFalsely : Prop := dirTellsRow.holds Try.pinned (OpenSpec.ofChange dirTellsWrong)

/-- 'catchmentlaw17.DirBuckets': WHATEVER THE INPUT: true; the input reads as it did. -/
def dirBucketsSpec : ChangeSpec := { name := "dirBuckets", fn := fun _ => fun
  | [d1, d2, d3] => { results := [.lit (.bool true)], args := [d1, d2, d3] }
  | _ => none }
def dirBucketsRow : OpenClaim := { program := "ytlkmcjjdjbdihaa", sum := "bc476057496b06d6d57d9704b55ae54a23554e53b2aafe9f897c8b1d475266b3", func := "catchment/catchmentlaw17.DirBuckets", spec := "dirBuckets", unfollowed := true, recurses := true, apart := false }
def DirBucketsSaid : Prop := dirBucketsRow.holds Try.pinned (OpenSpec.ofChange dirBucketsSpec)

/-- ITS FALSE NEIGHBOUR: 'it returns false'. Refute it at one input. -/
def dirBucketsWrong : ChangeSpec := { name := "dirBuckets", fn := fun _ => fun
  | [d1, d2, d3] => { results := [.lit (.bool false)], args := [d1, d2, d3] }
  | _ => none }
def DirBucketsWrongFalsely : Prop := dirBucketsRow.holds Try.pinned (OpenSpec.ofChange dirBucketsWrong)

/-- 'catchmentlaw17.DirDouble': WHATEVER THE INPUT: true; the input reads as it did. -/
def dirDoubleSpec : ChangeSpec := { name := "dirDouble", fn := fun _ => fun
  | [d1, d2] => { results := [.lit (.bool true)], args := [d1, d2] }
  | _ => none }
def dirDoubleRow : OpenClaim := { program := "ytlkmcjjdjbdihaa", sum := "bc476057496b06d6d57d9704b55ae54a23554e53b2aafe9f897c8b1d475266b3", func := "catchment/catchmentlaw17.DirDouble", spec := "dirDouble", unfollowed := true, recurses := true, apart := false }
def DirDoubleSaid : Prop := dirDoubleRow.holds Try.pinned (OpenSpec.ofChange dirDoubleSpec)

/-- ITS FALSE NEIGHBOUR: 'it returns false'. Refute it at one input. -/
def dirDoubleWrong : ChangeSpec := { name := "dirDouble", fn := fun _ => fun
  | [d1, d2] => { results := [.lit (.bool false)], args := [d1, d2] }
  | _ => none }
def DirDoubleWrongFalsely : Prop := dirDoubleRow.holds Try.pinned (OpenSpec.ofChange dirDoubleWrong)

/-- 'catchmentlaw17.DirSplit': WHATEVER THE INPUT: true; the input reads as it did. -/
def dirSplitSpec : ChangeSpec := { name := "dirSplit", fn := fun _ => fun
  | [d1, d2, d3] => { results := [.lit (.bool true)], args := [d1, d2, d3] }
  | _ => none }
def dirSplitRow : OpenClaim := { program := "ytlkmcjjdjbdihaa", sum := "bc476057496b06d6d57d9704b55ae54a23554e53b2aafe9f897c8b1d475266b3", func := "catchment/catchmentlaw17.DirSplit", spec := "dirSplit", unfollowed := true, recurses := true, apart := false }
def DirSplitSaid : Prop := dirSplitRow.holds Try.pinned (OpenSpec.ofChange dirSplitSpec)

/-- ITS FALSE NEIGHBOUR: 'it returns false'. Refute it at one input. -/
def dirSplitWrong : ChangeSpec := { name := "dirSplit", fn := fun _ => fun
  | [d1, d2, d3] => { results := [.lit (.bool false)], args := [d1, d2, d3] }
  | _ => none }
def DirSplitWrongFalsely : Prop := dirSplitRow.holds Try.pinned (OpenSpec.ofChange dirSplitWrong)

/-- 'catchmentlaw17.DirBuddy': WHATEVER THE INPUT: true; the input reads as it did. -/
def dirBuddySpec : ChangeSpec := { name := "dirBuddy", fn := fun _ => fun
  | [d1, d2, d3] => { results := [.lit (.bool true)], args := [d1, d2, d3] }
  | _ => none }
def dirBuddyRow : OpenClaim := { program := "ytlkmcjjdjbdihaa", sum := "bc476057496b06d6d57d9704b55ae54a23554e53b2aafe9f897c8b1d475266b3", func := "catchment/catchmentlaw17.DirBuddy", spec := "dirBuddy", unfollowed := true, recurses := true, apart := false }
def DirBuddySaid : Prop := dirBuddyRow.holds Try.pinned (OpenSpec.ofChange dirBuddySpec)

/-- ITS FALSE NEIGHBOUR: 'it returns false'. Refute it at one input. -/
def dirBuddyWrong : ChangeSpec := { name := "dirBuddy", fn := fun _ => fun
  | [d1, d2, d3] => { results := [.lit (.bool false)], args := [d1, d2, d3] }
  | _ => none }
def DirBuddyWrongFalsely : Prop := dirBuddyRow.holds Try.pinned (OpenSpec.ofChange dirBuddyWrong)

/-- 'catchmentlaw17.DirWrong': WHATEVER THE INPUT: true; the input reads as it did. -/
def dirWrongSpec : ChangeSpec := { name := "dirWrong", fn := fun _ => fun
  | [d1, d2, d3] => { results := [.lit (.bool true)], args := [d1, d2, d3] }
  | _ => none }
def dirWrongRow : OpenClaim := { program := "ytlkmcjjdjbdihaa", sum := "bc476057496b06d6d57d9704b55ae54a23554e53b2aafe9f897c8b1d475266b3", func := "catchment/catchmentlaw17.DirWrong", spec := "dirWrong", unfollowed := true, recurses := true, apart := false }
def DirWrongSaid : Prop := dirWrongRow.holds Try.pinned (OpenSpec.ofChange dirWrongSpec)

/-- ITS FALSE NEIGHBOUR: 'it returns false'. Refute it at one input. -/
def dirWrongWrong : ChangeSpec := { name := "dirWrong", fn := fun _ => fun
  | [d1, d2, d3] => { results := [.lit (.bool false)], args := [d1, d2, d3] }
  | _ => none }
def DirWrongWrongFalsely : Prop := dirWrongRow.holds Try.pinned (OpenSpec.ofChange dirWrongWrong)

/-- 'catchmentlaw17.DirOwn': WHATEVER THE INPUT: true; the input reads as it did. -/
def dirOwnSpec : ChangeSpec := { name := "dirOwn", fn := fun _ => fun
  | [d] => { results := [.lit (.bool true)], args := [d] }
  | _ => none }
def dirOwnRow : OpenClaim := { program := "ytlkmcjjdjbdihaa", sum := "bc476057496b06d6d57d9704b55ae54a23554e53b2aafe9f897c8b1d475266b3", func := "catchment/catchmentlaw17.DirOwn", spec := "dirOwn", unfollowed := true, recurses := true, apart := false }
def DirOwnSaid : Prop := dirOwnRow.holds Try.pinned (OpenSpec.ofChange dirOwnSpec)

/-- ITS FALSE NEIGHBOUR: 'it returns false'. Refute it at one input. -/
def dirOwnWrong : ChangeSpec := { name := "dirOwn", fn := fun _ => fun
  | [d] => { results := [.lit (.bool false)], args := [d] }
  | _ => none }
def DirOwnWrongFalsely : Prop := dirOwnRow.holds Try.pinned (OpenSpec.ofChange dirOwnWrong)

/- THE SECOND FORM. 'bulk': how many values and letters a reading holds, each counted each time it is reached (what is shared counts as often as it is met; a slice's spare places count too). A statement '..UptoSaid' is the law's where the arguments, and the package variables that the reading takes, are together of bulk at most 1048576: NARROWER than '..Said'. Prove '..Said' where nothing that the law and all that it calls make is longer than what came in: it says more and counts as full. Else prove '..UptoSaid'. A law counts once. -/
mutual
def uptoBulk {H : Type} : DataW H → Nat
  | .lit (.string bytes) => bytes.length + 1
  | .lit _ => 1
  | .nil => 1
  | .ptr d => uptoBulk d + 1
  | .slice elems spare => uptoBulkAll elems + uptoBulkAll spare + 1
  | .agg parts => uptoBulkAll parts + 1
  | .iface _ d => uptoBulk d + 1
  | .map entries => uptoBulkEntries entries + 1
  | .held _ => 1
def uptoBulkAll {H : Type} : List (DataW H) → Nat
  | [] => 0
  | d :: r => uptoBulk d + uptoBulkAll r
def uptoBulkEntries {H : Type} : List (Lit × DataW H) → Nat
  | [] => 0
  | x :: r => uptoBulkEntry x + uptoBulkEntries r
def uptoBulkEntry {H : Type} : Lit × DataW H → Nat
  | (.string bytes, d) => bytes.length + uptoBulk d + 1
  | (_, d) => uptoBulk d + 1
 end
def uptoSmall : (H : Type) → List (DataW H) → Bool := fun _ ds => decide (uptoBulkAll ds ≤ 1048576)
def OpenSpec.upto (s : _root_.Go.ChangeSpec) : _root_.Go.OpenSpec := { _root_.Go.OpenSpec.ofChange s with cond := some uptoSmall }

/-- 'catchmentlaw17.DirTells', WHERE WHAT IT READS IS OF BULK AT MOST 1048576: true; the input reads as it did. -/
def dirTellsUptoRow : OpenClaim := { program := "ytlkmcjjdjbdihaa", sum := "bc476057496b06d6d57d9704b55ae54a23554e53b2aafe9f897c8b1d475266b3", func := "catchment/catchmentlaw17.DirTells", spec := "dirTells", unfollowed := true, recurses := true, apart := false, narrowed := true }
def DirTellsUptoSaid : Prop := dirTellsUptoRow.holds Try.pinned (OpenSpec.upto dirTellsSpec)

/-- 'catchmentlaw17.DirBuckets', WHERE WHAT IT READS IS OF BULK AT MOST 1048576: true; the input reads as it did. -/
def dirBucketsUptoRow : OpenClaim := { program := "ytlkmcjjdjbdihaa", sum := "bc476057496b06d6d57d9704b55ae54a23554e53b2aafe9f897c8b1d475266b3", func := "catchment/catchmentlaw17.DirBuckets", spec := "dirBuckets", unfollowed := true, recurses := true, apart := false, narrowed := true }
def DirBucketsUptoSaid : Prop := dirBucketsUptoRow.holds Try.pinned (OpenSpec.upto dirBucketsSpec)

/-- 'catchmentlaw17.DirDouble', WHERE WHAT IT READS IS OF BULK AT MOST 1048576: true; the input reads as it did. -/
def dirDoubleUptoRow : OpenClaim := { program := "ytlkmcjjdjbdihaa", sum := "bc476057496b06d6d57d9704b55ae54a23554e53b2aafe9f897c8b1d475266b3", func := "catchment/catchmentlaw17.DirDouble", spec := "dirDouble", unfollowed := true, recurses := true, apart := false, narrowed := true }
def DirDoubleUptoSaid : Prop := dirDoubleUptoRow.holds Try.pinned (OpenSpec.upto dirDoubleSpec)

/-- 'catchmentlaw17.DirSplit', WHERE WHAT IT READS IS OF BULK AT MOST 1048576: true; the input reads as it did. -/
def dirSplitUptoRow : OpenClaim := { program := "ytlkmcjjdjbdihaa", sum := "bc476057496b06d6d57d9704b55ae54a23554e53b2aafe9f897c8b1d475266b3", func := "catchment/catchmentlaw17.DirSplit", spec := "dirSplit", unfollowed := true, recurses := true, apart := false, narrowed := true }
def DirSplitUptoSaid : Prop := dirSplitUptoRow.holds Try.pinned (OpenSpec.upto dirSplitSpec)

/-- 'catchmentlaw17.DirBuddy', WHERE WHAT IT READS IS OF BULK AT MOST 1048576: true; the input reads as it did. -/
def dirBuddyUptoRow : OpenClaim := { program := "ytlkmcjjdjbdihaa", sum := "bc476057496b06d6d57d9704b55ae54a23554e53b2aafe9f897c8b1d475266b3", func := "catchment/catchmentlaw17.DirBuddy", spec := "dirBuddy", unfollowed := true, recurses := true, apart := false, narrowed := true }
def DirBuddyUptoSaid : Prop := dirBuddyUptoRow.holds Try.pinned (OpenSpec.upto dirBuddySpec)

/-- 'catchmentlaw17.DirWrong', WHERE WHAT IT READS IS OF BULK AT MOST 1048576: true; the input reads as it did. -/
def dirWrongUptoRow : OpenClaim := { program := "ytlkmcjjdjbdihaa", sum := "bc476057496b06d6d57d9704b55ae54a23554e53b2aafe9f897c8b1d475266b3", func := "catchment/catchmentlaw17.DirWrong", spec := "dirWrong", unfollowed := true, recurses := true, apart := false, narrowed := true }
def DirWrongUptoSaid : Prop := dirWrongUptoRow.holds Try.pinned (OpenSpec.upto dirWrongSpec)

/-- 'catchmentlaw17.DirOwn', WHERE WHAT IT READS IS OF BULK AT MOST 1048576: true; the input reads as it did. -/
def dirOwnUptoRow : OpenClaim := { program := "ytlkmcjjdjbdihaa", sum := "bc476057496b06d6d57d9704b55ae54a23554e53b2aafe9f897c8b1d475266b3", func := "catchment/catchmentlaw17.DirOwn", spec := "dirOwn", unfollowed := true, recurses := true, apart := false, narrowed := true }
def DirOwnUptoSaid : Prop := dirOwnUptoRow.holds Try.pinned (OpenSpec.upto dirOwnSpec)

end Rows
end Go.Proofs.Ytlkmcjjdjbdihaa
