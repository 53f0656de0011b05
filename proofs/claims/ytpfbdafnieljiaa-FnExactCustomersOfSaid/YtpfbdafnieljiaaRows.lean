/-
  No cell of these rows narrows 'for every input' (looked for: loops, veiled, ifaces, maps, wideKeys, modest, calm, conditions, laid).
  DERIVED. THE GIVEN ROWS OF THIS SEAT. 13 by the template 'for every input the law returns true; each argument reads behind the call as it read before'; 0 by the template 'total and deterministic' (their statements: YtpfbdafnieljiaaTotals.lean).
  GIVEN WITH THE SEED: the statements are not yours to turn. If you find one false, say at which input.
  Laid BY PROGRAM, IN A SANDBOX (cutbox-rows.mjs): the forced cells as the released guide's own fill.sh prints them over the translation 0d2954429ffe70bf… (all of the seat's roots in one cut). By AI agents, Wed Nov 11 2026. No macro, syntax, notation, axiom, sorry.
-/
import Derived.Test.YtpfbdafnieljiaaChecked
import GoSem.Claim
import GoSem.ClaimJoined
import GoSem.ClaimMapViews
import Derived.JoinedTies
import Derived.KernelRfl
namespace Go.Proofs.Ytpfbdafnieljiaa
/- THE CELL 'sum', in the pinned program and in every row, IS THE sha256 OF THE DUMP (.gsa) THAT YtpfbdafnieljiaaProg.lean LOADS. Nothing in Lean hashes anything: it is a label: what it is worth is what the hold of that sum in a sandbox is worth. -/
noncomputable def Try.pinned : Pinned := { name := "ytpfbdafnieljiaa", sum := "0d2954429ffe70bf208821ccf70e1e4736e565f2829318e63e1608138100ce7d", checked := Try.checked }
namespace Rows
def none {H : Type} : Left H := { results := [], args := [] }

/-- 'laws.FnExactSameOrders': WHATEVER THE INPUT: true; the input reads as it did. -/
def fnExactSameOrdersSpec : ChangeSpec := { name := "fnExactSameOrders", fn := fun _ => fun
  | [d1, d2] => { results := [.lit (.bool true)], args := [d1, d2] }
  | _ => none }
def fnExactSameOrdersRow : OpenClaim := { program := "ytpfbdafnieljiaa", sum := "0d2954429ffe70bf208821ccf70e1e4736e565f2829318e63e1608138100ce7d", func := "loop.example/g01042/laws.FnExactSameOrders", spec := "fnExactSameOrders", apart := false }
def FnExactSameOrdersSaid : Prop := fnExactSameOrdersRow.holds Try.pinned (OpenSpec.ofChange fnExactSameOrdersSpec)

/-- ITS FALSE NEIGHBOUR: 'it returns false'. Refute it at one input. -/
def fnExactSameOrdersWrong : ChangeSpec := { name := "fnExactSameOrders", fn := fun _ => fun
  | [d1, d2] => { results := [.lit (.bool false)], args := [d1, d2] }
  | _ => none }
def FnExactSameOrdersWrongFalsely : Prop := fnExactSameOrdersRow.holds Try.pinned (OpenSpec.ofChange fnExactSameOrdersWrong)

/-- 'laws.FnExactValidOrders': WHATEVER THE INPUT: true; the input reads as it did. -/
def fnExactValidOrdersSpec : ChangeSpec := { name := "fnExactValidOrders", fn := fun _ => fun
  | [d] => { results := [.lit (.bool true)], args := [d] }
  | _ => none }
def fnExactValidOrdersRow : OpenClaim := { program := "ytpfbdafnieljiaa", sum := "0d2954429ffe70bf208821ccf70e1e4736e565f2829318e63e1608138100ce7d", func := "loop.example/g01042/laws.FnExactValidOrders", spec := "fnExactValidOrders", apart := false }
def FnExactValidOrdersSaid : Prop := fnExactValidOrdersRow.holds Try.pinned (OpenSpec.ofChange fnExactValidOrdersSpec)

/-- ITS FALSE NEIGHBOUR: 'it returns false'. Refute it at one input. -/
def fnExactValidOrdersWrong : ChangeSpec := { name := "fnExactValidOrders", fn := fun _ => fun
  | [d] => { results := [.lit (.bool false)], args := [d] }
  | _ => none }
def FnExactValidOrdersWrongFalsely : Prop := fnExactValidOrdersRow.holds Try.pinned (OpenSpec.ofChange fnExactValidOrdersWrong)

/-- 'laws.FnExactOpenBricks': WHATEVER THE INPUT: true; the input reads as it did. -/
def fnExactOpenBricksSpec : ChangeSpec := { name := "fnExactOpenBricks", fn := fun _ => fun
  | [d] => { results := [.lit (.bool true)], args := [d] }
  | _ => none }
def fnExactOpenBricksRow : OpenClaim := { program := "ytpfbdafnieljiaa", sum := "0d2954429ffe70bf208821ccf70e1e4736e565f2829318e63e1608138100ce7d", func := "loop.example/g01042/laws.FnExactOpenBricks", spec := "fnExactOpenBricks", apart := false }
def FnExactOpenBricksSaid : Prop := fnExactOpenBricksRow.holds Try.pinned (OpenSpec.ofChange fnExactOpenBricksSpec)

/-- ITS FALSE NEIGHBOUR: 'it returns false'. Refute it at one input. -/
def fnExactOpenBricksWrong : ChangeSpec := { name := "fnExactOpenBricks", fn := fun _ => fun
  | [d] => { results := [.lit (.bool false)], args := [d] }
  | _ => none }
def FnExactOpenBricksWrongFalsely : Prop := fnExactOpenBricksRow.holds Try.pinned (OpenSpec.ofChange fnExactOpenBricksWrong)

/-- 'laws.FnExactStockNeeded': WHATEVER THE INPUT: true; the input reads as it did. -/
def fnExactStockNeededSpec : ChangeSpec := { name := "fnExactStockNeeded", fn := fun _ => fun
  | [d1, d2] => { results := [.lit (.bool true)], args := [d1, d2] }
  | _ => none }
def fnExactStockNeededRow : OpenClaim := { program := "ytpfbdafnieljiaa", sum := "0d2954429ffe70bf208821ccf70e1e4736e565f2829318e63e1608138100ce7d", func := "loop.example/g01042/laws.FnExactStockNeeded", spec := "fnExactStockNeeded", apart := false }
def FnExactStockNeededSaid : Prop := fnExactStockNeededRow.holds Try.pinned (OpenSpec.ofChange fnExactStockNeededSpec)

/-- ITS FALSE NEIGHBOUR: 'it returns false'. Refute it at one input. -/
def fnExactStockNeededWrong : ChangeSpec := { name := "fnExactStockNeeded", fn := fun _ => fun
  | [d1, d2] => { results := [.lit (.bool false)], args := [d1, d2] }
  | _ => none }
def FnExactStockNeededWrongFalsely : Prop := fnExactStockNeededRow.holds Try.pinned (OpenSpec.ofChange fnExactStockNeededWrong)

/-- 'laws.FnExactLateOrders': WHATEVER THE INPUT: true; the input reads as it did. -/
def fnExactLateOrdersSpec : ChangeSpec := { name := "fnExactLateOrders", fn := fun _ => fun
  | [d1, d2] => { results := [.lit (.bool true)], args := [d1, d2] }
  | _ => none }
def fnExactLateOrdersRow : OpenClaim := { program := "ytpfbdafnieljiaa", sum := "0d2954429ffe70bf208821ccf70e1e4736e565f2829318e63e1608138100ce7d", func := "loop.example/g01042/laws.FnExactLateOrders", spec := "fnExactLateOrders", apart := false }
def FnExactLateOrdersSaid : Prop := fnExactLateOrdersRow.holds Try.pinned (OpenSpec.ofChange fnExactLateOrdersSpec)

/-- ITS FALSE NEIGHBOUR: 'it returns false'. Refute it at one input. -/
def fnExactLateOrdersWrong : ChangeSpec := { name := "fnExactLateOrders", fn := fun _ => fun
  | [d1, d2] => { results := [.lit (.bool false)], args := [d1, d2] }
  | _ => none }
def FnExactLateOrdersWrongFalsely : Prop := fnExactLateOrdersRow.holds Try.pinned (OpenSpec.ofChange fnExactLateOrdersWrong)

/-- 'laws.FnExactCustomersOf': WHATEVER THE INPUT: true; the input reads as it did. -/
def fnExactCustomersOfSpec : ChangeSpec := { name := "fnExactCustomersOf", fn := fun _ => fun
  | [d] => { results := [.lit (.bool true)], args := [d] }
  | _ => none }
def fnExactCustomersOfRow : OpenClaim := { program := "ytpfbdafnieljiaa", sum := "0d2954429ffe70bf208821ccf70e1e4736e565f2829318e63e1608138100ce7d", func := "loop.example/g01042/laws.FnExactCustomersOf", spec := "fnExactCustomersOf", apart := false }
def FnExactCustomersOfSaid : Prop := fnExactCustomersOfRow.holds Try.pinned (OpenSpec.ofChange fnExactCustomersOfSpec)

/-- ITS FALSE NEIGHBOUR: 'it returns false'. Refute it at one input. -/
def fnExactCustomersOfWrong : ChangeSpec := { name := "fnExactCustomersOf", fn := fun _ => fun
  | [d] => { results := [.lit (.bool false)], args := [d] }
  | _ => none }
def FnExactCustomersOfWrongFalsely : Prop := fnExactCustomersOfRow.holds Try.pinned (OpenSpec.ofChange fnExactCustomersOfWrong)

/-- 'laws.FnExactCancelOrder': WHATEVER THE INPUT: true; the input reads as it did. -/
def fnExactCancelOrderSpec : ChangeSpec := { name := "fnExactCancelOrder", fn := fun _ => fun
  | [d1, d2] => { results := [.lit (.bool true)], args := [d1, d2] }
  | _ => none }
def fnExactCancelOrderRow : OpenClaim := { program := "ytpfbdafnieljiaa", sum := "0d2954429ffe70bf208821ccf70e1e4736e565f2829318e63e1608138100ce7d", func := "loop.example/g01042/laws.FnExactCancelOrder", spec := "fnExactCancelOrder", unfollowed := true, recurses := true, apart := false }
def FnExactCancelOrderSaid : Prop := fnExactCancelOrderRow.holds Try.pinned (OpenSpec.ofChange fnExactCancelOrderSpec)

/-- ITS FALSE NEIGHBOUR: 'it returns false'. Refute it at one input. -/
def fnExactCancelOrderWrong : ChangeSpec := { name := "fnExactCancelOrder", fn := fun _ => fun
  | [d1, d2] => { results := [.lit (.bool false)], args := [d1, d2] }
  | _ => none }
def FnExactCancelOrderWrongFalsely : Prop := fnExactCancelOrderRow.holds Try.pinned (OpenSpec.ofChange fnExactCancelOrderWrong)

/-- 'laws.FnExactSendBricks': WHATEVER THE INPUT: true; the input reads as it did. -/
def fnExactSendBricksSpec : ChangeSpec := { name := "fnExactSendBricks", fn := fun _ => fun
  | [d1, d2, d3] => { results := [.lit (.bool true)], args := [d1, d2, d3] }
  | _ => none }
def fnExactSendBricksRow : OpenClaim := { program := "ytpfbdafnieljiaa", sum := "0d2954429ffe70bf208821ccf70e1e4736e565f2829318e63e1608138100ce7d", func := "loop.example/g01042/laws.FnExactSendBricks", spec := "fnExactSendBricks", unfollowed := true, recurses := true, apart := false }
def FnExactSendBricksSaid : Prop := fnExactSendBricksRow.holds Try.pinned (OpenSpec.ofChange fnExactSendBricksSpec)

/-- ITS FALSE NEIGHBOUR: 'it returns false'. Refute it at one input. -/
def fnExactSendBricksWrong : ChangeSpec := { name := "fnExactSendBricks", fn := fun _ => fun
  | [d1, d2, d3] => { results := [.lit (.bool false)], args := [d1, d2, d3] }
  | _ => none }
def FnExactSendBricksWrongFalsely : Prop := fnExactSendBricksRow.holds Try.pinned (OpenSpec.ofChange fnExactSendBricksWrong)

/-- 'laws.FnExactFirstShort': WHATEVER THE INPUT: true; the input reads as it did. -/
def fnExactFirstShortSpec : ChangeSpec := { name := "fnExactFirstShort", fn := fun _ => fun
  | [d1, d2, d3] => { results := [.lit (.bool true)], args := [d1, d2, d3] }
  | _ => none }
def fnExactFirstShortRow : OpenClaim := { program := "ytpfbdafnieljiaa", sum := "0d2954429ffe70bf208821ccf70e1e4736e565f2829318e63e1608138100ce7d", func := "loop.example/g01042/laws.FnExactFirstShort", spec := "fnExactFirstShort", unfollowed := true, recurses := true, apart := false }
def FnExactFirstShortSaid : Prop := fnExactFirstShortRow.holds Try.pinned (OpenSpec.ofChange fnExactFirstShortSpec)

/-- ITS FALSE NEIGHBOUR: 'it returns false'. Refute it at one input. -/
def fnExactFirstShortWrong : ChangeSpec := { name := "fnExactFirstShort", fn := fun _ => fun
  | [d1, d2, d3] => { results := [.lit (.bool false)], args := [d1, d2, d3] }
  | _ => none }
def FnExactFirstShortWrongFalsely : Prop := fnExactFirstShortRow.holds Try.pinned (OpenSpec.ofChange fnExactFirstShortWrong)

/-- 'laws.FnExactOrdersByDue': WHATEVER THE INPUT: true; the input reads as it did. -/
def fnExactOrdersByDueSpec : ChangeSpec := { name := "fnExactOrdersByDue", fn := fun _ => fun
  | [d] => { results := [.lit (.bool true)], args := [d] }
  | _ => none }
def fnExactOrdersByDueRow : OpenClaim := { program := "ytpfbdafnieljiaa", sum := "0d2954429ffe70bf208821ccf70e1e4736e565f2829318e63e1608138100ce7d", func := "loop.example/g01042/laws.FnExactOrdersByDue", spec := "fnExactOrdersByDue", unfollowed := true, recurses := true, apart := false }
def FnExactOrdersByDueSaid : Prop := fnExactOrdersByDueRow.holds Try.pinned (OpenSpec.ofChange fnExactOrdersByDueSpec)

/-- ITS FALSE NEIGHBOUR: 'it returns false'. Refute it at one input. -/
def fnExactOrdersByDueWrong : ChangeSpec := { name := "fnExactOrdersByDue", fn := fun _ => fun
  | [d] => { results := [.lit (.bool false)], args := [d] }
  | _ => none }
def FnExactOrdersByDueWrongFalsely : Prop := fnExactOrdersByDueRow.holds Try.pinned (OpenSpec.ofChange fnExactOrdersByDueWrong)

/-- 'laws.FnExactTakeOrder': WHATEVER THE INPUT: true; the input reads as it did. -/
def fnExactTakeOrderSpec : ChangeSpec := { name := "fnExactTakeOrder", fn := fun _ => fun
  | [d1, d2] => { results := [.lit (.bool true)], args := [d1, d2] }
  | _ => none }
def fnExactTakeOrderRow : OpenClaim := { program := "ytpfbdafnieljiaa", sum := "0d2954429ffe70bf208821ccf70e1e4736e565f2829318e63e1608138100ce7d", func := "loop.example/g01042/laws.FnExactTakeOrder", spec := "fnExactTakeOrder", inPlace := ["slices.overlaps[loop.example/g01042/impl.Order]"], unfollowed := true, recurses := true, apart := false }
def FnExactTakeOrderSaid : Prop := fnExactTakeOrderRow.holds Try.pinned (OpenSpec.ofChange fnExactTakeOrderSpec)

/-- ITS FALSE NEIGHBOUR: 'it returns false'. Refute it at one input. -/
def fnExactTakeOrderWrong : ChangeSpec := { name := "fnExactTakeOrder", fn := fun _ => fun
  | [d1, d2] => { results := [.lit (.bool false)], args := [d1, d2] }
  | _ => none }
def FnExactTakeOrderWrongFalsely : Prop := fnExactTakeOrderRow.holds Try.pinned (OpenSpec.ofChange fnExactTakeOrderWrong)

/-- 'laws.FnExactReserveStock': WHATEVER THE INPUT: true; the input reads as it did. -/
def fnExactReserveStockSpec : ChangeSpec := { name := "fnExactReserveStock", fn := fun _ => fun
  | [d1, d2] => { results := [.lit (.bool true)], args := [d1, d2] }
  | _ => none }
def fnExactReserveStockRow : OpenClaim := { program := "ytpfbdafnieljiaa", sum := "0d2954429ffe70bf208821ccf70e1e4736e565f2829318e63e1608138100ce7d", func := "loop.example/g01042/laws.FnExactReserveStock", spec := "fnExactReserveStock", unfollowed := true, recurses := true, apart := false }
def FnExactReserveStockSaid : Prop := fnExactReserveStockRow.holds Try.pinned (OpenSpec.ofChange fnExactReserveStockSpec)

/-- ITS FALSE NEIGHBOUR: 'it returns false'. Refute it at one input. -/
def fnExactReserveStockWrong : ChangeSpec := { name := "fnExactReserveStock", fn := fun _ => fun
  | [d1, d2] => { results := [.lit (.bool false)], args := [d1, d2] }
  | _ => none }
def FnExactReserveStockWrongFalsely : Prop := fnExactReserveStockRow.holds Try.pinned (OpenSpec.ofChange fnExactReserveStockWrong)

/-- 'laws.FnStock': WHATEVER THE INPUT: true; the input reads as it did. -/
def fnStockSpec : ChangeSpec := { name := "fnStock", fn := fun _ => fun
  | [d] => { results := [.lit (.bool true)], args := [d] }
  | _ => none }
def fnStockRow : OpenClaim := { program := "ytpfbdafnieljiaa", sum := "0d2954429ffe70bf208821ccf70e1e4736e565f2829318e63e1608138100ce7d", func := "loop.example/g01042/laws.FnStock", spec := "fnStock", unfollowed := true, recurses := true, apart := false }
def FnStockSaid : Prop := fnStockRow.holds Try.pinned (OpenSpec.ofChange fnStockSpec)

/-- ITS FALSE NEIGHBOUR: 'it returns false'. Refute it at one input. -/
def fnStockWrong : ChangeSpec := { name := "fnStock", fn := fun _ => fun
  | [d] => { results := [.lit (.bool false)], args := [d] }
  | _ => none }
def FnStockWrongFalsely : Prop := fnStockRow.holds Try.pinned (OpenSpec.ofChange fnStockWrong)

/- THE SECOND FORM. 'bulk': how many values and letters a reading holds, each counted each time it is reached (what is shared counts as often as it is met; a slice's spare places count too). A statement '..UptoSaid' is the law's where the arguments, and the package variables that the reading takes, are together of bulk at most 1048576: NARROWER than '..Said'. Prove '..Said' where nothing that the law and all that it calls make is longer than what came in: it says more and counts as full. Else prove '..UptoSaid'. A law counts once. -/
mutual
def uptoBulk {H : Type} : DataW H → Nat
  | .lit (.string bytes) => bytes.length + 1
  | .lit _ => 1
  | .nil => 1
  | .ptr d => uptoBulk d + 1
  | .slice elems spare => uptoBulkAll elems + uptoBulkAll spare + 1
  | .agg parts => uptoBulkAll parts + 1
  | .iface _ d => uptoBulk d + 1
  | .map entries => uptoBulkEntries entries + 1
  | .held _ => 1
def uptoBulkAll {H : Type} : List (DataW H) → Nat
  | [] => 0
  | d :: r => uptoBulk d + uptoBulkAll r
def uptoBulkEntries {H : Type} : List (Lit × DataW H) → Nat
  | [] => 0
  | x :: r => uptoBulkEntry x + uptoBulkEntries r
def uptoBulkEntry {H : Type} : Lit × DataW H → Nat
  | (.string bytes, d) => bytes.length + uptoBulk d + 1
  | (_, d) => uptoBulk d + 1
 end
def uptoSmall : (H : Type) → List (DataW H) → Bool := fun _ ds => decide (uptoBulkAll ds ≤ 1048576)
def OpenSpec.upto (s : _root_.Go.ChangeSpec) : _root_.Go.OpenSpec := { _root_.Go.OpenSpec.ofChange s with cond := some uptoSmall }

/-- 'laws.FnExactSameOrders', WHERE WHAT IT READS IS OF BULK AT MOST 1048576: true; the input reads as it did. -/
def fnExactSameOrdersUptoRow : OpenClaim := { program := "ytpfbdafnieljiaa", sum := "0d2954429ffe70bf208821ccf70e1e4736e565f2829318e63e1608138100ce7d", func := "loop.example/g01042/laws.FnExactSameOrders", spec := "fnExactSameOrders", apart := false, narrowed := true }
def FnExactSameOrdersUptoSaid : Prop := fnExactSameOrdersUptoRow.holds Try.pinned (OpenSpec.upto fnExactSameOrdersSpec)

/-- 'laws.FnExactValidOrders', WHERE WHAT IT READS IS OF BULK AT MOST 1048576: true; the input reads as it did. -/
def fnExactValidOrdersUptoRow : OpenClaim := { program := "ytpfbdafnieljiaa", sum := "0d2954429ffe70bf208821ccf70e1e4736e565f2829318e63e1608138100ce7d", func := "loop.example/g01042/laws.FnExactValidOrders", spec := "fnExactValidOrders", apart := false, narrowed := true }
def FnExactValidOrdersUptoSaid : Prop := fnExactValidOrdersUptoRow.holds Try.pinned (OpenSpec.upto fnExactValidOrdersSpec)

/-- 'laws.FnExactOpenBricks', WHERE WHAT IT READS IS OF BULK AT MOST 1048576: true; the input reads as it did. -/
def fnExactOpenBricksUptoRow : OpenClaim := { program := "ytpfbdafnieljiaa", sum := "0d2954429ffe70bf208821ccf70e1e4736e565f2829318e63e1608138100ce7d", func := "loop.example/g01042/laws.FnExactOpenBricks", spec := "fnExactOpenBricks", apart := false, narrowed := true }
def FnExactOpenBricksUptoSaid : Prop := fnExactOpenBricksUptoRow.holds Try.pinned (OpenSpec.upto fnExactOpenBricksSpec)

/-- 'laws.FnExactStockNeeded', WHERE WHAT IT READS IS OF BULK AT MOST 1048576: true; the input reads as it did. -/
def fnExactStockNeededUptoRow : OpenClaim := { program := "ytpfbdafnieljiaa", sum := "0d2954429ffe70bf208821ccf70e1e4736e565f2829318e63e1608138100ce7d", func := "loop.example/g01042/laws.FnExactStockNeeded", spec := "fnExactStockNeeded", apart := false, narrowed := true }
def FnExactStockNeededUptoSaid : Prop := fnExactStockNeededUptoRow.holds Try.pinned (OpenSpec.upto fnExactStockNeededSpec)

/-- 'laws.FnExactLateOrders', WHERE WHAT IT READS IS OF BULK AT MOST 1048576: true; the input reads as it did. -/
def fnExactLateOrdersUptoRow : OpenClaim := { program := "ytpfbdafnieljiaa", sum := "0d2954429ffe70bf208821ccf70e1e4736e565f2829318e63e1608138100ce7d", func := "loop.example/g01042/laws.FnExactLateOrders", spec := "fnExactLateOrders", apart := false, narrowed := true }
def FnExactLateOrdersUptoSaid : Prop := fnExactLateOrdersUptoRow.holds Try.pinned (OpenSpec.upto fnExactLateOrdersSpec)

/-- 'laws.FnExactCustomersOf', WHERE WHAT IT READS IS OF BULK AT MOST 1048576: true; the input reads as it did. -/
def fnExactCustomersOfUptoRow : OpenClaim := { program := "ytpfbdafnieljiaa", sum := "0d2954429ffe70bf208821ccf70e1e4736e565f2829318e63e1608138100ce7d", func := "loop.example/g01042/laws.FnExactCustomersOf", spec := "fnExactCustomersOf", apart := false, narrowed := true }
def FnExactCustomersOfUptoSaid : Prop := fnExactCustomersOfUptoRow.holds Try.pinned (OpenSpec.upto fnExactCustomersOfSpec)

/-- 'laws.FnExactCancelOrder', WHERE WHAT IT READS IS OF BULK AT MOST 1048576: true; the input reads as it did. -/
def fnExactCancelOrderUptoRow : OpenClaim := { program := "ytpfbdafnieljiaa", sum := "0d2954429ffe70bf208821ccf70e1e4736e565f2829318e63e1608138100ce7d", func := "loop.example/g01042/laws.FnExactCancelOrder", spec := "fnExactCancelOrder", unfollowed := true, recurses := true, apart := false, narrowed := true }
def FnExactCancelOrderUptoSaid : Prop := fnExactCancelOrderUptoRow.holds Try.pinned (OpenSpec.upto fnExactCancelOrderSpec)

/-- 'laws.FnExactSendBricks', WHERE WHAT IT READS IS OF BULK AT MOST 1048576: true; the input reads as it did. -/
def fnExactSendBricksUptoRow : OpenClaim := { program := "ytpfbdafnieljiaa", sum := "0d2954429ffe70bf208821ccf70e1e4736e565f2829318e63e1608138100ce7d", func := "loop.example/g01042/laws.FnExactSendBricks", spec := "fnExactSendBricks", unfollowed := true, recurses := true, apart := false, narrowed := true }
def FnExactSendBricksUptoSaid : Prop := fnExactSendBricksUptoRow.holds Try.pinned (OpenSpec.upto fnExactSendBricksSpec)

/-- 'laws.FnExactFirstShort', WHERE WHAT IT READS IS OF BULK AT MOST 1048576: true; the input reads as it did. -/
def fnExactFirstShortUptoRow : OpenClaim := { program := "ytpfbdafnieljiaa", sum := "0d2954429ffe70bf208821ccf70e1e4736e565f2829318e63e1608138100ce7d", func := "loop.example/g01042/laws.FnExactFirstShort", spec := "fnExactFirstShort", unfollowed := true, recurses := true, apart := false, narrowed := true }
def FnExactFirstShortUptoSaid : Prop := fnExactFirstShortUptoRow.holds Try.pinned (OpenSpec.upto fnExactFirstShortSpec)

/-- 'laws.FnExactOrdersByDue', WHERE WHAT IT READS IS OF BULK AT MOST 1048576: true; the input reads as it did. -/
def fnExactOrdersByDueUptoRow : OpenClaim := { program := "ytpfbdafnieljiaa", sum := "0d2954429ffe70bf208821ccf70e1e4736e565f2829318e63e1608138100ce7d", func := "loop.example/g01042/laws.FnExactOrdersByDue", spec := "fnExactOrdersByDue", unfollowed := true, recurses := true, apart := false, narrowed := true }
def FnExactOrdersByDueUptoSaid : Prop := fnExactOrdersByDueUptoRow.holds Try.pinned (OpenSpec.upto fnExactOrdersByDueSpec)

/-- 'laws.FnExactTakeOrder', WHERE WHAT IT READS IS OF BULK AT MOST 1048576: true; the input reads as it did. -/
def fnExactTakeOrderUptoRow : OpenClaim := { program := "ytpfbdafnieljiaa", sum := "0d2954429ffe70bf208821ccf70e1e4736e565f2829318e63e1608138100ce7d", func := "loop.example/g01042/laws.FnExactTakeOrder", spec := "fnExactTakeOrder", inPlace := ["slices.overlaps[loop.example/g01042/impl.Order]"], unfollowed := true, recurses := true, apart := false, narrowed := true }
def FnExactTakeOrderUptoSaid : Prop := fnExactTakeOrderUptoRow.holds Try.pinned (OpenSpec.upto fnExactTakeOrderSpec)

/-- 'laws.FnExactReserveStock', WHERE WHAT IT READS IS OF BULK AT MOST 1048576: true; the input reads as it did. -/
def fnExactReserveStockUptoRow : OpenClaim := { program := "ytpfbdafnieljiaa", sum := "0d2954429ffe70bf208821ccf70e1e4736e565f2829318e63e1608138100ce7d", func := "loop.example/g01042/laws.FnExactReserveStock", spec := "fnExactReserveStock", unfollowed := true, recurses := true, apart := false, narrowed := true }
def FnExactReserveStockUptoSaid : Prop := fnExactReserveStockUptoRow.holds Try.pinned (OpenSpec.upto fnExactReserveStockSpec)

/-- 'laws.FnStock', WHERE WHAT IT READS IS OF BULK AT MOST 1048576: true; the input reads as it did. -/
def fnStockUptoRow : OpenClaim := { program := "ytpfbdafnieljiaa", sum := "0d2954429ffe70bf208821ccf70e1e4736e565f2829318e63e1608138100ce7d", func := "loop.example/g01042/laws.FnStock", spec := "fnStock", unfollowed := true, recurses := true, apart := false, narrowed := true }
def FnStockUptoSaid : Prop := fnStockUptoRow.holds Try.pinned (OpenSpec.upto fnStockSpec)

end Rows
end Go.Proofs.Ytpfbdafnieljiaa
