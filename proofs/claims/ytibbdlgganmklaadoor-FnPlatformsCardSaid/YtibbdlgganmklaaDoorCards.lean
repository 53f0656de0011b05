/-
  DERIVED. GIVEN WITH THE SEED: THE CARDS: each row of YtibbdlgganmklaaDoorRows.lean that lists a variable, with what it lists TIED to the program's text (the seventh form; the later family's looks); each row that meets fmt, with fmt's text TOLD by the authors' own Lean function (tested against real Go, not proved from fmt's source: count such statements apart). THE CARD IS WHAT COUNTS. Prove the row's statement (the work); the ties are given (YtibbdlgganmklaaDoorTie.lean); close each card by the builder's one call (the guide's Derived/Test/ToyasCard.lean, 'card_holds'). Laid BY PROGRAM, IN A SANDBOX (cutbox-door.mjs). By AI agents, Wed Nov 11 2026. No macro, syntax, notation, axiom, sorry.
-/
import Derived.Test.YtibbdlgganmklaaDoorRows
import GoSem.ClaimSeven
namespace Go.Proofs.YtibbdlgganmklaaDoor
namespace Rows

/-- THE TIED CARD OF 'laws.FnPlatforms'. -/
def fnPlatformsCard : Claim7 := { stood := { row := fnPlatformsRow, standIns := [], harness := (true, "f4d31e15b7befa4c05b34dff2e0be0a644afb1f728a34cb053196cbdc9d264ab"), looks := true }, kinds := [], alts := [], laidByText := true, laidKinds := [.data, .data, .data, .data, .sentinel, .sentinel, .pinned], laidTests := true, laidLooks := .later }
def FnPlatformsCardSaid : Prop := Claim7.holds Tryd.pinned (.plain (OpenSpec.ofChange fnPlatformsSpec)) fnPlatformsCard

/-- THE SECOND FORM's CARD OF 'laws.FnPlatforms'. -/
def fnPlatformsUptoCard : Claim7 := { stood := { row := fnPlatformsUptoRow, standIns := [], harness := (true, "f4d31e15b7befa4c05b34dff2e0be0a644afb1f728a34cb053196cbdc9d264ab"), looks := true }, kinds := [], alts := [], laidByText := true, laidKinds := [.data, .data, .data, .data, .sentinel, .sentinel, .pinned], laidTests := true, laidLooks := .later }
def FnPlatformsUptoCardSaid : Prop := Claim7.holds Tryd.pinned (.plain (OpenSpec.upto fnPlatformsSpec)) fnPlatformsUptoCard
end Rows
end Go.Proofs.YtibbdlgganmklaaDoor
