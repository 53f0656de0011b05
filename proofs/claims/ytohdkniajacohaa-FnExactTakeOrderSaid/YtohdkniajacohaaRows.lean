/-
  No cell of these rows narrows 'for every input' (looked for: loops, veiled, ifaces, maps, wideKeys, modest, calm, conditions, laid).
  DERIVED. THE GIVEN ROWS OF THIS SEAT. 4 by the template 'for every input the law returns true; each argument reads behind the call as it read before'; 0 by the template 'total and deterministic' (their statements: YtohdkniajacohaaTotals.lean).
  GIVEN WITH THE SEED: the statements are not yours to turn. If you find one false, say at which input.
  Laid BY PROGRAM, IN A SANDBOX (cutbox-rows.mjs): the forced cells as the released guide's own fill.sh prints them over the translation b68060548cf5e0fb… (all of the seat's roots in one cut). By AI agents, Wed Nov 11 2026. No macro, syntax, notation, axiom, sorry.
-/
import Derived.Test.YtohdkniajacohaaChecked
import GoSem.Claim
import GoSem.ClaimJoined
import GoSem.ClaimMapViews
import Derived.JoinedTies
import Derived.KernelRfl
namespace Go.Proofs.Ytohdkniajacohaa
/- THE CELL 'sum', in the pinned program and in every row, IS THE sha256 OF THE DUMP (.gsa) THAT YtohdkniajacohaaProg.lean LOADS. Nothing in Lean hashes anything: it is a label: what it is worth is what the hold of that sum in a sandbox is worth. -/
noncomputable def Try.pinned : Pinned := { name := "ytohdkniajacohaa", sum := "b68060548cf5e0fb94d74f67eea98234032306058312ae3daae814a69430e37f", checked := Try.checked }
namespace Rows
def none {H : Type} : Left H := { results := [], args := [] }

/-- 'laws.FnExactOrdersByDue': WHATEVER THE INPUT: true; the input reads as it did. -/
def fnExactOrdersByDueSpec : ChangeSpec := { name := "fnExactOrdersByDue", fn := fun _ => fun
  | [d] => { results := [.lit (.bool true)], args := [d] }
  | _ => none }
def fnExactOrdersByDueRow : OpenClaim := { program := "ytohdkniajacohaa", sum := "b68060548cf5e0fb94d74f67eea98234032306058312ae3daae814a69430e37f", func := "loop.example/g01042/laws.FnExactOrdersByDue", spec := "fnExactOrdersByDue", unfollowed := true, recurses := true, apart := false }
def FnExactOrdersByDueSaid : Prop := fnExactOrdersByDueRow.holds Try.pinned (OpenSpec.ofChange fnExactOrdersByDueSpec)

/-- ITS FALSE NEIGHBOUR: 'it returns false'. Refute it at one input. -/
def fnExactOrdersByDueWrong : ChangeSpec := { name := "fnExactOrdersByDue", fn := fun _ => fun
  | [d] => { results := [.lit (.bool false)], args := [d] }
  | _ => none }
def FnExactOrdersByDueWrongFalsely : Prop := fnExactOrdersByDueRow.holds Try.pinned (OpenSpec.ofChange fnExactOrdersByDueWrong)

/-- 'laws.FnExactTakeOrder': WHATEVER THE INPUT: true; the input reads as it did. -/
def fnExactTakeOrderSpec : ChangeSpec := { name := "fnExactTakeOrder", fn := fun _ => fun
  | [d1, d2] => { results := [.lit (.bool true)], args := [d1, d2] }
  | _ => none }
def fnExactTakeOrderRow : OpenClaim := { program := "ytohdkniajacohaa", sum := "b68060548cf5e0fb94d74f67eea98234032306058312ae3daae814a69430e37f", func := "loop.example/g01042/laws.FnExactTakeOrder", spec := "fnExactTakeOrder", inPlace := ["slices.overlaps[loop.example/g01042/impl.Order]"], unfollowed := true, recurses := true, apart := false }
def FnExactTakeOrderSaid : Prop := fnExactTakeOrderRow.holds Try.pinned (OpenSpec.ofChange fnExactTakeOrderSpec)

/-- ITS FALSE NEIGHBOUR: 'it returns false'. Refute it at one input. -/
def fnExactTakeOrderWrong : ChangeSpec := { name := "fnExactTakeOrder", fn := fun _ => fun
  | [d1, d2] => { results := [.lit (.bool false)], args := [d1, d2] }
  | _ => none }
def FnExactTakeOrderWrongFalsely : Prop := fnExactTakeOrderRow.holds Try.pinned (OpenSpec.ofChange fnExactTakeOrderWrong)

/-- 'laws.FnExactFirstShort': WHATEVER THE INPUT: true; the input reads as it did. -/
def fnExactFirstShortSpec : ChangeSpec := { name := "fnExactFirstShort", fn := fun _ => fun
  | [d1, d2, d3] => { results := [.lit (.bool true)], args := [d1, d2, d3] }
  | _ => none }
def fnExactFirstShortRow : OpenClaim := { program := "ytohdkniajacohaa", sum := "b68060548cf5e0fb94d74f67eea98234032306058312ae3daae814a69430e37f", func := "loop.example/g01042/laws.FnExactFirstShort", spec := "fnExactFirstShort", unfollowed := true, recurses := true, apart := false }
def FnExactFirstShortSaid : Prop := fnExactFirstShortRow.holds Try.pinned (OpenSpec.ofChange fnExactFirstShortSpec)

/-- ITS FALSE NEIGHBOUR: 'it returns false'. Refute it at one input. -/
def fnExactFirstShortWrong : ChangeSpec := { name := "fnExactFirstShort", fn := fun _ => fun
  | [d1, d2, d3] => { results := [.lit (.bool false)], args := [d1, d2, d3] }
  | _ => none }
def FnExactFirstShortWrongFalsely : Prop := fnExactFirstShortRow.holds Try.pinned (OpenSpec.ofChange fnExactFirstShortWrong)

/-- 'laws.FnExactReserveStock': WHATEVER THE INPUT: true; the input reads as it did. -/
def fnExactReserveStockSpec : ChangeSpec := { name := "fnExactReserveStock", fn := fun _ => fun
  | [d1, d2] => { results := [.lit (.bool true)], args := [d1, d2] }
  | _ => none }
def fnExactReserveStockRow : OpenClaim := { program := "ytohdkniajacohaa", sum := "b68060548cf5e0fb94d74f67eea98234032306058312ae3daae814a69430e37f", func := "loop.example/g01042/laws.FnExactReserveStock", spec := "fnExactReserveStock", unfollowed := true, recurses := true, apart := false }
def FnExactReserveStockSaid : Prop := fnExactReserveStockRow.holds Try.pinned (OpenSpec.ofChange fnExactReserveStockSpec)

/-- ITS FALSE NEIGHBOUR: 'it returns false'. Refute it at one input. -/
def fnExactReserveStockWrong : ChangeSpec := { name := "fnExactReserveStock", fn := fun _ => fun
  | [d1, d2] => { results := [.lit (.bool false)], args := [d1, d2] }
  | _ => none }
def FnExactReserveStockWrongFalsely : Prop := fnExactReserveStockRow.holds Try.pinned (OpenSpec.ofChange fnExactReserveStockWrong)

/- THE SECOND FORM. 'bulk': how many values and letters a reading holds, each counted each time it is reached (what is shared counts as often as it is met; a slice's spare places count too). A statement '..UptoSaid' is the law's where the arguments, and the package variables that the reading takes, are together of bulk at most 1048576: NARROWER than '..Said'. Prove '..Said' where nothing that the law and all that it calls make is longer than what came in: it says more and counts as full. Else prove '..UptoSaid'. A law counts once. -/
mutual
def uptoBulk {H : Type} : DataW H → Nat
  | .lit (.string bytes) => bytes.length + 1
  | .lit _ => 1
  | .nil => 1
  | .ptr d => uptoBulk d + 1
  | .slice elems spare => uptoBulkAll elems + uptoBulkAll spare + 1
  | .agg parts => uptoBulkAll parts + 1
  | .iface _ d => uptoBulk d + 1
  | .map entries => uptoBulkEntries entries + 1
  | .held _ => 1
def uptoBulkAll {H : Type} : List (DataW H) → Nat
  | [] => 0
  | d :: r => uptoBulk d + uptoBulkAll r
def uptoBulkEntries {H : Type} : List (Lit × DataW H) → Nat
  | [] => 0
  | x :: r => uptoBulkEntry x + uptoBulkEntries r
def uptoBulkEntry {H : Type} : Lit × DataW H → Nat
  | (.string bytes, d) => bytes.length + uptoBulk d + 1
  | (_, d) => uptoBulk d + 1
 end
def uptoSmall : (H : Type) → List (DataW H) → Bool := fun _ ds => decide (uptoBulkAll ds ≤ 1048576)
def OpenSpec.upto (s : _root_.Go.ChangeSpec) : _root_.Go.OpenSpec := { _root_.Go.OpenSpec.ofChange s with cond := some uptoSmall }

/-- 'laws.FnExactOrdersByDue', WHERE WHAT IT READS IS OF BULK AT MOST 1048576: true; the input reads as it did. -/
def fnExactOrdersByDueUptoRow : OpenClaim := { program := "ytohdkniajacohaa", sum := "b68060548cf5e0fb94d74f67eea98234032306058312ae3daae814a69430e37f", func := "loop.example/g01042/laws.FnExactOrdersByDue", spec := "fnExactOrdersByDue", unfollowed := true, recurses := true, apart := false, narrowed := true }
def FnExactOrdersByDueUptoSaid : Prop := fnExactOrdersByDueUptoRow.holds Try.pinned (OpenSpec.upto fnExactOrdersByDueSpec)

/-- 'laws.FnExactTakeOrder', WHERE WHAT IT READS IS OF BULK AT MOST 1048576: true; the input reads as it did. -/
def fnExactTakeOrderUptoRow : OpenClaim := { program := "ytohdkniajacohaa", sum := "b68060548cf5e0fb94d74f67eea98234032306058312ae3daae814a69430e37f", func := "loop.example/g01042/laws.FnExactTakeOrder", spec := "fnExactTakeOrder", inPlace := ["slices.overlaps[loop.example/g01042/impl.Order]"], unfollowed := true, recurses := true, apart := false, narrowed := true }
def FnExactTakeOrderUptoSaid : Prop := fnExactTakeOrderUptoRow.holds Try.pinned (OpenSpec.upto fnExactTakeOrderSpec)

/-- 'laws.FnExactFirstShort', WHERE WHAT IT READS IS OF BULK AT MOST 1048576: true; the input reads as it did. -/
def fnExactFirstShortUptoRow : OpenClaim := { program := "ytohdkniajacohaa", sum := "b68060548cf5e0fb94d74f67eea98234032306058312ae3daae814a69430e37f", func := "loop.example/g01042/laws.FnExactFirstShort", spec := "fnExactFirstShort", unfollowed := true, recurses := true, apart := false, narrowed := true }
def FnExactFirstShortUptoSaid : Prop := fnExactFirstShortUptoRow.holds Try.pinned (OpenSpec.upto fnExactFirstShortSpec)

/-- 'laws.FnExactReserveStock', WHERE WHAT IT READS IS OF BULK AT MOST 1048576: true; the input reads as it did. -/
def fnExactReserveStockUptoRow : OpenClaim := { program := "ytohdkniajacohaa", sum := "b68060548cf5e0fb94d74f67eea98234032306058312ae3daae814a69430e37f", func := "loop.example/g01042/laws.FnExactReserveStock", spec := "fnExactReserveStock", unfollowed := true, recurses := true, apart := false, narrowed := true }
def FnExactReserveStockUptoSaid : Prop := fnExactReserveStockUptoRow.holds Try.pinned (OpenSpec.upto fnExactReserveStockSpec)

end Rows
end Go.Proofs.Ytohdkniajacohaa
