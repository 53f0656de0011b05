/-
  No cell of these rows narrows 'for every input' (looked for: loops, veiled, ifaces, maps, wideKeys, modest, calm, conditions, laid).
  DERIVED. THE GIVEN ROWS OF THIS SEAT. 10 by the template 'for every input the law returns true; each argument reads behind the call as it read before'; 0 by the template 'total and deterministic' (their statements: YtahcdofikfookaaTotals.lean).
  GIVEN WITH THE SEED: the statements are not yours to turn. If you find one false, say at which input.
  Laid BY PROGRAM, IN A SANDBOX (cutbox-rows.mjs): the forced cells as the released guide's own fill.sh prints them over the translation 2ef3ddb8158207e3… (all of the seat's roots in one cut). By AI agents, Wed Nov 11 2026. No macro, syntax, notation, axiom, sorry.
-/
import Derived.Test.YtahcdofikfookaaChecked
import GoSem.Claim
import GoSem.ClaimJoined
import GoSem.ClaimMapViews
import Derived.JoinedTies
import Derived.KernelRfl
namespace Go.Proofs.Ytahcdofikfookaa
/- THE CELL 'sum', in the pinned program and in every row, IS THE sha256 OF THE DUMP (.gsa) THAT YtahcdofikfookaaProg.lean LOADS. Nothing in Lean hashes anything: it is a label: what it is worth is what the hold of that sum in a sandbox is worth. -/
noncomputable def Try.pinned : Pinned := { name := "ytahcdofikfookaa", sum := "2ef3ddb8158207e35f0dbf3a63e7ebaa13196394ae8b7693a7af8154ae1360ce", checked := Try.checked }
namespace Rows
def none {H : Type} : Left H := { results := [], args := [] }

/-- 'laws.FnExactSameRise': WHATEVER THE INPUT: true; the input reads as it did. -/
def fnExactSameRiseSpec : ChangeSpec := { name := "fnExactSameRise", fn := fun _ => fun
  | [d1, d2] => { results := [.lit (.bool true)], args := [d1, d2] }
  | _ => none }
def fnExactSameRiseRow : OpenClaim := { program := "ytahcdofikfookaa", sum := "2ef3ddb8158207e35f0dbf3a63e7ebaa13196394ae8b7693a7af8154ae1360ce", func := "loop.example/g01042/laws.FnExactSameRise", spec := "fnExactSameRise", apart := false }
def FnExactSameRiseSaid : Prop := fnExactSameRiseRow.holds Try.pinned (OpenSpec.ofChange fnExactSameRiseSpec)

/-- ITS FALSE NEIGHBOUR: 'it returns false'. Refute it at one input. -/
def fnExactSameRiseWrong : ChangeSpec := { name := "fnExactSameRise", fn := fun _ => fun
  | [d1, d2] => { results := [.lit (.bool false)], args := [d1, d2] }
  | _ => none }
def FnExactSameRiseWrongFalsely : Prop := fnExactSameRiseRow.holds Try.pinned (OpenSpec.ofChange fnExactSameRiseWrong)

/-- 'laws.FnExactValidRise': WHATEVER THE INPUT: true; the input reads as it did. -/
def fnExactValidRiseSpec : ChangeSpec := { name := "fnExactValidRise", fn := fun _ => fun
  | [d] => { results := [.lit (.bool true)], args := [d] }
  | _ => none }
def fnExactValidRiseRow : OpenClaim := { program := "ytahcdofikfookaa", sum := "2ef3ddb8158207e35f0dbf3a63e7ebaa13196394ae8b7693a7af8154ae1360ce", func := "loop.example/g01042/laws.FnExactValidRise", spec := "fnExactValidRise", unfollowed := true, recurses := true, apart := false }
def FnExactValidRiseSaid : Prop := fnExactValidRiseRow.holds Try.pinned (OpenSpec.ofChange fnExactValidRiseSpec)

/-- ITS FALSE NEIGHBOUR: 'it returns false'. Refute it at one input. -/
def fnExactValidRiseWrong : ChangeSpec := { name := "fnExactValidRise", fn := fun _ => fun
  | [d] => { results := [.lit (.bool false)], args := [d] }
  | _ => none }
def FnExactValidRiseWrongFalsely : Prop := fnExactValidRiseRow.holds Try.pinned (OpenSpec.ofChange fnExactValidRiseWrong)

/-- 'laws.FnLiftPlans': WHATEVER THE INPUT: true; the input reads as it did. -/
def fnLiftPlansSpec : ChangeSpec := { name := "fnLiftPlans", fn := fun _ => fun
  | [d1, d2] => { results := [.lit (.bool true)], args := [d1, d2] }
  | _ => none }
def fnLiftPlansRow : OpenClaim := { program := "ytahcdofikfookaa", sum := "2ef3ddb8158207e35f0dbf3a63e7ebaa13196394ae8b7693a7af8154ae1360ce", func := "loop.example/g01042/laws.FnLiftPlans", spec := "fnLiftPlans", unfollowed := true, recurses := true, apart := false }
def FnLiftPlansSaid : Prop := fnLiftPlansRow.holds Try.pinned (OpenSpec.ofChange fnLiftPlansSpec)

/-- ITS FALSE NEIGHBOUR: 'it returns false'. Refute it at one input. -/
def fnLiftPlansWrong : ChangeSpec := { name := "fnLiftPlans", fn := fun _ => fun
  | [d1, d2] => { results := [.lit (.bool false)], args := [d1, d2] }
  | _ => none }
def FnLiftPlansWrongFalsely : Prop := fnLiftPlansRow.holds Try.pinned (OpenSpec.ofChange fnLiftPlansWrong)

/-- 'laws.FnExactFewestLifts': WHATEVER THE INPUT: true; the input reads as it did. -/
def fnExactFewestLiftsSpec : ChangeSpec := { name := "fnExactFewestLifts", fn := fun _ => fun
  | [d] => { results := [.lit (.bool true)], args := [d] }
  | _ => none }
def fnExactFewestLiftsRow : OpenClaim := { program := "ytahcdofikfookaa", sum := "2ef3ddb8158207e35f0dbf3a63e7ebaa13196394ae8b7693a7af8154ae1360ce", func := "loop.example/g01042/laws.FnExactFewestLifts", spec := "fnExactFewestLifts", unfollowed := true, recurses := true, apart := false }
def FnExactFewestLiftsSaid : Prop := fnExactFewestLiftsRow.holds Try.pinned (OpenSpec.ofChange fnExactFewestLiftsSpec)

/-- ITS FALSE NEIGHBOUR: 'it returns false'. Refute it at one input. -/
def fnExactFewestLiftsWrong : ChangeSpec := { name := "fnExactFewestLifts", fn := fun _ => fun
  | [d] => { results := [.lit (.bool false)], args := [d] }
  | _ => none }
def FnExactFewestLiftsWrongFalsely : Prop := fnExactFewestLiftsRow.holds Try.pinned (OpenSpec.ofChange fnExactFewestLiftsWrong)

/-- 'laws.FnExactEffortOf': WHATEVER THE INPUT: true; the input reads as it did. -/
def fnExactEffortOfSpec : ChangeSpec := { name := "fnExactEffortOf", fn := fun _ => fun
  | [d1, d2, d3] => { results := [.lit (.bool true)], args := [d1, d2, d3] }
  | _ => none }
def fnExactEffortOfRow : OpenClaim := { program := "ytahcdofikfookaa", sum := "2ef3ddb8158207e35f0dbf3a63e7ebaa13196394ae8b7693a7af8154ae1360ce", func := "loop.example/g01042/laws.FnExactEffortOf", spec := "fnExactEffortOf", unfollowed := true, recurses := true, apart := false }
def FnExactEffortOfSaid : Prop := fnExactEffortOfRow.holds Try.pinned (OpenSpec.ofChange fnExactEffortOfSpec)

/-- ITS FALSE NEIGHBOUR: 'it returns false'. Refute it at one input. -/
def fnExactEffortOfWrong : ChangeSpec := { name := "fnExactEffortOf", fn := fun _ => fun
  | [d1, d2, d3] => { results := [.lit (.bool false)], args := [d1, d2, d3] }
  | _ => none }
def FnExactEffortOfWrongFalsely : Prop := fnExactEffortOfRow.holds Try.pinned (OpenSpec.ofChange fnExactEffortOfWrong)

/-- 'laws.FnExactLiftCost': WHATEVER THE INPUT: true; the input reads as it did. -/
def fnExactLiftCostSpec : ChangeSpec := { name := "fnExactLiftCost", fn := fun _ => fun
  | [d1, d2, d3] => { results := [.lit (.bool true)], args := [d1, d2, d3] }
  | _ => none }
def fnExactLiftCostRow : OpenClaim := { program := "ytahcdofikfookaa", sum := "2ef3ddb8158207e35f0dbf3a63e7ebaa13196394ae8b7693a7af8154ae1360ce", func := "loop.example/g01042/laws.FnExactLiftCost", spec := "fnExactLiftCost", unfollowed := true, recurses := true, apart := false }
def FnExactLiftCostSaid : Prop := fnExactLiftCostRow.holds Try.pinned (OpenSpec.ofChange fnExactLiftCostSpec)

/-- ITS FALSE NEIGHBOUR: 'it returns false'. Refute it at one input. -/
def fnExactLiftCostWrong : ChangeSpec := { name := "fnExactLiftCost", fn := fun _ => fun
  | [d1, d2, d3] => { results := [.lit (.bool false)], args := [d1, d2, d3] }
  | _ => none }
def FnExactLiftCostWrongFalsely : Prop := fnExactLiftCostRow.holds Try.pinned (OpenSpec.ofChange fnExactLiftCostWrong)

/-- 'laws.FnExactIsLiftPlan': WHATEVER THE INPUT: true; the input reads as it did. -/
def fnExactIsLiftPlanSpec : ChangeSpec := { name := "fnExactIsLiftPlan", fn := fun _ => fun
  | [d1, d2] => { results := [.lit (.bool true)], args := [d1, d2] }
  | _ => none }
def fnExactIsLiftPlanRow : OpenClaim := { program := "ytahcdofikfookaa", sum := "2ef3ddb8158207e35f0dbf3a63e7ebaa13196394ae8b7693a7af8154ae1360ce", func := "loop.example/g01042/laws.FnExactIsLiftPlan", spec := "fnExactIsLiftPlan", unfollowed := true, recurses := true, apart := false }
def FnExactIsLiftPlanSaid : Prop := fnExactIsLiftPlanRow.holds Try.pinned (OpenSpec.ofChange fnExactIsLiftPlanSpec)

/-- ITS FALSE NEIGHBOUR: 'it returns false'. Refute it at one input. -/
def fnExactIsLiftPlanWrong : ChangeSpec := { name := "fnExactIsLiftPlan", fn := fun _ => fun
  | [d1, d2] => { results := [.lit (.bool false)], args := [d1, d2] }
  | _ => none }
def FnExactIsLiftPlanWrongFalsely : Prop := fnExactIsLiftPlanRow.holds Try.pinned (OpenSpec.ofChange fnExactIsLiftPlanWrong)

/-- 'laws.FnExactPlanCost': WHATEVER THE INPUT: true; the input reads as it did. -/
def fnExactPlanCostSpec : ChangeSpec := { name := "fnExactPlanCost", fn := fun _ => fun
  | [d1, d2] => { results := [.lit (.bool true)], args := [d1, d2] }
  | _ => none }
def fnExactPlanCostRow : OpenClaim := { program := "ytahcdofikfookaa", sum := "2ef3ddb8158207e35f0dbf3a63e7ebaa13196394ae8b7693a7af8154ae1360ce", func := "loop.example/g01042/laws.FnExactPlanCost", spec := "fnExactPlanCost", unfollowed := true, recurses := true, apart := false }
def FnExactPlanCostSaid : Prop := fnExactPlanCostRow.holds Try.pinned (OpenSpec.ofChange fnExactPlanCostSpec)

/-- ITS FALSE NEIGHBOUR: 'it returns false'. Refute it at one input. -/
def fnExactPlanCostWrong : ChangeSpec := { name := "fnExactPlanCost", fn := fun _ => fun
  | [d1, d2] => { results := [.lit (.bool false)], args := [d1, d2] }
  | _ => none }
def FnExactPlanCostWrongFalsely : Prop := fnExactPlanCostRow.holds Try.pinned (OpenSpec.ofChange fnExactPlanCostWrong)

/-- 'laws.FnExactBestPlan': WHATEVER THE INPUT: true; the input reads as it did. -/
def fnExactBestPlanSpec : ChangeSpec := { name := "fnExactBestPlan", fn := fun _ => fun
  | [d] => { results := [.lit (.bool true)], args := [d] }
  | _ => none }
def fnExactBestPlanRow : OpenClaim := { program := "ytahcdofikfookaa", sum := "2ef3ddb8158207e35f0dbf3a63e7ebaa13196394ae8b7693a7af8154ae1360ce", func := "loop.example/g01042/laws.FnExactBestPlan", spec := "fnExactBestPlan", unfollowed := true, recurses := true, apart := false }
def FnExactBestPlanSaid : Prop := fnExactBestPlanRow.holds Try.pinned (OpenSpec.ofChange fnExactBestPlanSpec)

/-- ITS FALSE NEIGHBOUR: 'it returns false'. Refute it at one input. -/
def fnExactBestPlanWrong : ChangeSpec := { name := "fnExactBestPlan", fn := fun _ => fun
  | [d] => { results := [.lit (.bool false)], args := [d] }
  | _ => none }
def FnExactBestPlanWrongFalsely : Prop := fnExactBestPlanRow.holds Try.pinned (OpenSpec.ofChange fnExactBestPlanWrong)

/-- 'laws.FnExactPlatformHeights': WHATEVER THE INPUT: true; the input reads as it did. -/
def fnExactPlatformHeightsSpec : ChangeSpec := { name := "fnExactPlatformHeights", fn := fun _ => fun
  | [d1, d2] => { results := [.lit (.bool true)], args := [d1, d2] }
  | _ => none }
def fnExactPlatformHeightsRow : OpenClaim := { program := "ytahcdofikfookaa", sum := "2ef3ddb8158207e35f0dbf3a63e7ebaa13196394ae8b7693a7af8154ae1360ce", func := "loop.example/g01042/laws.FnExactPlatformHeights", spec := "fnExactPlatformHeights", unfollowed := true, recurses := true, apart := false }
def FnExactPlatformHeightsSaid : Prop := fnExactPlatformHeightsRow.holds Try.pinned (OpenSpec.ofChange fnExactPlatformHeightsSpec)

/-- ITS FALSE NEIGHBOUR: 'it returns false'. Refute it at one input. -/
def fnExactPlatformHeightsWrong : ChangeSpec := { name := "fnExactPlatformHeights", fn := fun _ => fun
  | [d1, d2] => { results := [.lit (.bool false)], args := [d1, d2] }
  | _ => none }
def FnExactPlatformHeightsWrongFalsely : Prop := fnExactPlatformHeightsRow.holds Try.pinned (OpenSpec.ofChange fnExactPlatformHeightsWrong)

/- THE SECOND FORM. 'bulk': how many values and letters a reading holds, each counted each time it is reached (what is shared counts as often as it is met; a slice's spare places count too). A statement '..UptoSaid' is the law's where the arguments, and the package variables that the reading takes, are together of bulk at most 1048576: NARROWER than '..Said'. Prove '..Said' where nothing that the law and all that it calls make is longer than what came in: it says more and counts as full. Else prove '..UptoSaid'. A law counts once. -/
mutual
def uptoBulk {H : Type} : DataW H → Nat
  | .lit (.string bytes) => bytes.length + 1
  | .lit _ => 1
  | .nil => 1
  | .ptr d => uptoBulk d + 1
  | .slice elems spare => uptoBulkAll elems + uptoBulkAll spare + 1
  | .agg parts => uptoBulkAll parts + 1
  | .iface _ d => uptoBulk d + 1
  | .map entries => uptoBulkEntries entries + 1
  | .held _ => 1
def uptoBulkAll {H : Type} : List (DataW H) → Nat
  | [] => 0
  | d :: r => uptoBulk d + uptoBulkAll r
def uptoBulkEntries {H : Type} : List (Lit × DataW H) → Nat
  | [] => 0
  | x :: r => uptoBulkEntry x + uptoBulkEntries r
def uptoBulkEntry {H : Type} : Lit × DataW H → Nat
  | (.string bytes, d) => bytes.length + uptoBulk d + 1
  | (_, d) => uptoBulk d + 1
 end
def uptoSmall : (H : Type) → List (DataW H) → Bool := fun _ ds => decide (uptoBulkAll ds ≤ 1048576)
def OpenSpec.upto (s : _root_.Go.ChangeSpec) : _root_.Go.OpenSpec := { _root_.Go.OpenSpec.ofChange s with cond := some uptoSmall }

/-- 'laws.FnExactSameRise', WHERE WHAT IT READS IS OF BULK AT MOST 1048576: true; the input reads as it did. -/
def fnExactSameRiseUptoRow : OpenClaim := { program := "ytahcdofikfookaa", sum := "2ef3ddb8158207e35f0dbf3a63e7ebaa13196394ae8b7693a7af8154ae1360ce", func := "loop.example/g01042/laws.FnExactSameRise", spec := "fnExactSameRise", apart := false, narrowed := true }
def FnExactSameRiseUptoSaid : Prop := fnExactSameRiseUptoRow.holds Try.pinned (OpenSpec.upto fnExactSameRiseSpec)

/-- 'laws.FnExactValidRise', WHERE WHAT IT READS IS OF BULK AT MOST 1048576: true; the input reads as it did. -/
def fnExactValidRiseUptoRow : OpenClaim := { program := "ytahcdofikfookaa", sum := "2ef3ddb8158207e35f0dbf3a63e7ebaa13196394ae8b7693a7af8154ae1360ce", func := "loop.example/g01042/laws.FnExactValidRise", spec := "fnExactValidRise", unfollowed := true, recurses := true, apart := false, narrowed := true }
def FnExactValidRiseUptoSaid : Prop := fnExactValidRiseUptoRow.holds Try.pinned (OpenSpec.upto fnExactValidRiseSpec)

/-- 'laws.FnLiftPlans', WHERE WHAT IT READS IS OF BULK AT MOST 1048576: true; the input reads as it did. -/
def fnLiftPlansUptoRow : OpenClaim := { program := "ytahcdofikfookaa", sum := "2ef3ddb8158207e35f0dbf3a63e7ebaa13196394ae8b7693a7af8154ae1360ce", func := "loop.example/g01042/laws.FnLiftPlans", spec := "fnLiftPlans", unfollowed := true, recurses := true, apart := false, narrowed := true }
def FnLiftPlansUptoSaid : Prop := fnLiftPlansUptoRow.holds Try.pinned (OpenSpec.upto fnLiftPlansSpec)

/-- 'laws.FnExactFewestLifts', WHERE WHAT IT READS IS OF BULK AT MOST 1048576: true; the input reads as it did. -/
def fnExactFewestLiftsUptoRow : OpenClaim := { program := "ytahcdofikfookaa", sum := "2ef3ddb8158207e35f0dbf3a63e7ebaa13196394ae8b7693a7af8154ae1360ce", func := "loop.example/g01042/laws.FnExactFewestLifts", spec := "fnExactFewestLifts", unfollowed := true, recurses := true, apart := false, narrowed := true }
def FnExactFewestLiftsUptoSaid : Prop := fnExactFewestLiftsUptoRow.holds Try.pinned (OpenSpec.upto fnExactFewestLiftsSpec)

/-- 'laws.FnExactEffortOf', WHERE WHAT IT READS IS OF BULK AT MOST 1048576: true; the input reads as it did. -/
def fnExactEffortOfUptoRow : OpenClaim := { program := "ytahcdofikfookaa", sum := "2ef3ddb8158207e35f0dbf3a63e7ebaa13196394ae8b7693a7af8154ae1360ce", func := "loop.example/g01042/laws.FnExactEffortOf", spec := "fnExactEffortOf", unfollowed := true, recurses := true, apart := false, narrowed := true }
def FnExactEffortOfUptoSaid : Prop := fnExactEffortOfUptoRow.holds Try.pinned (OpenSpec.upto fnExactEffortOfSpec)

/-- 'laws.FnExactLiftCost', WHERE WHAT IT READS IS OF BULK AT MOST 1048576: true; the input reads as it did. -/
def fnExactLiftCostUptoRow : OpenClaim := { program := "ytahcdofikfookaa", sum := "2ef3ddb8158207e35f0dbf3a63e7ebaa13196394ae8b7693a7af8154ae1360ce", func := "loop.example/g01042/laws.FnExactLiftCost", spec := "fnExactLiftCost", unfollowed := true, recurses := true, apart := false, narrowed := true }
def FnExactLiftCostUptoSaid : Prop := fnExactLiftCostUptoRow.holds Try.pinned (OpenSpec.upto fnExactLiftCostSpec)

/-- 'laws.FnExactIsLiftPlan', WHERE WHAT IT READS IS OF BULK AT MOST 1048576: true; the input reads as it did. -/
def fnExactIsLiftPlanUptoRow : OpenClaim := { program := "ytahcdofikfookaa", sum := "2ef3ddb8158207e35f0dbf3a63e7ebaa13196394ae8b7693a7af8154ae1360ce", func := "loop.example/g01042/laws.FnExactIsLiftPlan", spec := "fnExactIsLiftPlan", unfollowed := true, recurses := true, apart := false, narrowed := true }
def FnExactIsLiftPlanUptoSaid : Prop := fnExactIsLiftPlanUptoRow.holds Try.pinned (OpenSpec.upto fnExactIsLiftPlanSpec)

/-- 'laws.FnExactPlanCost', WHERE WHAT IT READS IS OF BULK AT MOST 1048576: true; the input reads as it did. -/
def fnExactPlanCostUptoRow : OpenClaim := { program := "ytahcdofikfookaa", sum := "2ef3ddb8158207e35f0dbf3a63e7ebaa13196394ae8b7693a7af8154ae1360ce", func := "loop.example/g01042/laws.FnExactPlanCost", spec := "fnExactPlanCost", unfollowed := true, recurses := true, apart := false, narrowed := true }
def FnExactPlanCostUptoSaid : Prop := fnExactPlanCostUptoRow.holds Try.pinned (OpenSpec.upto fnExactPlanCostSpec)

/-- 'laws.FnExactBestPlan', WHERE WHAT IT READS IS OF BULK AT MOST 1048576: true; the input reads as it did. -/
def fnExactBestPlanUptoRow : OpenClaim := { program := "ytahcdofikfookaa", sum := "2ef3ddb8158207e35f0dbf3a63e7ebaa13196394ae8b7693a7af8154ae1360ce", func := "loop.example/g01042/laws.FnExactBestPlan", spec := "fnExactBestPlan", unfollowed := true, recurses := true, apart := false, narrowed := true }
def FnExactBestPlanUptoSaid : Prop := fnExactBestPlanUptoRow.holds Try.pinned (OpenSpec.upto fnExactBestPlanSpec)

/-- 'laws.FnExactPlatformHeights', WHERE WHAT IT READS IS OF BULK AT MOST 1048576: true; the input reads as it did. -/
def fnExactPlatformHeightsUptoRow : OpenClaim := { program := "ytahcdofikfookaa", sum := "2ef3ddb8158207e35f0dbf3a63e7ebaa13196394ae8b7693a7af8154ae1360ce", func := "loop.example/g01042/laws.FnExactPlatformHeights", spec := "fnExactPlatformHeights", unfollowed := true, recurses := true, apart := false, narrowed := true }
def FnExactPlatformHeightsUptoSaid : Prop := fnExactPlatformHeightsUptoRow.holds Try.pinned (OpenSpec.upto fnExactPlatformHeightsSpec)

end Rows
end Go.Proofs.Ytahcdofikfookaa
