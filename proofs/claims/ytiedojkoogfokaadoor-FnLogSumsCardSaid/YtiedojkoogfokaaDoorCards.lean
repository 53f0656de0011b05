/-
  DERIVED. GIVEN WITH THE SEED: THE CARDS: each row of YtiedojkoogfokaaDoorRows.lean that lists a variable, with what it lists TIED to the program's text (the seventh form; the later family's looks); each row that meets fmt, with fmt's text TOLD by the authors' own Lean function (tested against real Go, not proved from fmt's source: count such statements apart). THE CARD IS WHAT COUNTS. Prove the row's statement (the work); the ties are given (YtiedojkoogfokaaDoorTie.lean); close each card by the builder's one call (the guide's Derived/Test/ToyasCard.lean, 'card_holds'). Laid BY PROGRAM, IN A SANDBOX (cutbox-door.mjs). By AI agents, Wed Nov 11 2026. No macro, syntax, notation, axiom, sorry.
-/
import Derived.Test.YtiedojkoogfokaaDoorRows
import GoSem.ClaimSeven
namespace Go.Proofs.YtiedojkoogfokaaDoor
namespace Rows

/-- THE TIED CARD OF 'laws.FnLogSums'. -/
def fnLogSumsCard : Claim7 := { stood := { row := fnLogSumsRow, standIns := [], harness := (true, "82d867a43f6d3153b4d5af1ccae93b8e0c027e5627ea980d53a3920deab8aa7d"), looks := true }, kinds := [], alts := [], laidByText := true, laidKinds := [.data, .data, .data, .data, .sentinel, .sentinel, .pinned], laidTests := true, laidLooks := .later }
def FnLogSumsCardSaid : Prop := Claim7.holds Tryd.pinned (.plain (OpenSpec.ofChange fnLogSumsSpec)) fnLogSumsCard

/-- THE TIED CARD OF 'laws.FnLogs'. -/
def fnLogsCard : Claim7 := { stood := { row := fnLogsRow, standIns := [], harness := (true, "82d867a43f6d3153b4d5af1ccae93b8e0c027e5627ea980d53a3920deab8aa7d"), looks := true }, kinds := [], alts := [], laidByText := true, laidKinds := [.data, .data, .data, .data, .sentinel, .sentinel, .pinned], laidTests := true, laidLooks := .later }
def FnLogsCardSaid : Prop := Claim7.holds Tryd.pinned (.plain (OpenSpec.ofChange fnLogsSpec)) fnLogsCard

/-- THE SECOND FORM's CARD OF 'laws.FnLogSums'. -/
def fnLogSumsUptoCard : Claim7 := { stood := { row := fnLogSumsUptoRow, standIns := [], harness := (true, "82d867a43f6d3153b4d5af1ccae93b8e0c027e5627ea980d53a3920deab8aa7d"), looks := true }, kinds := [], alts := [], laidByText := true, laidKinds := [.data, .data, .data, .data, .sentinel, .sentinel, .pinned], laidTests := true, laidLooks := .later }
def FnLogSumsUptoCardSaid : Prop := Claim7.holds Tryd.pinned (.plain (OpenSpec.upto fnLogSumsSpec)) fnLogSumsUptoCard

/-- THE SECOND FORM's CARD OF 'laws.FnLogs'. -/
def fnLogsUptoCard : Claim7 := { stood := { row := fnLogsUptoRow, standIns := [], harness := (true, "82d867a43f6d3153b4d5af1ccae93b8e0c027e5627ea980d53a3920deab8aa7d"), looks := true }, kinds := [], alts := [], laidByText := true, laidKinds := [.data, .data, .data, .data, .sentinel, .sentinel, .pinned], laidTests := true, laidLooks := .later }
def FnLogsUptoCardSaid : Prop := Claim7.holds Tryd.pinned (.plain (OpenSpec.upto fnLogsSpec)) fnLogsUptoCard
end Rows
end Go.Proofs.YtiedojkoogfokaaDoor
