/-
  DERIVED. GIVEN WITH THE SEED: THE CARDS: each row of YtlgmelkcokkcdaaDoorRows.lean that lists a variable, with what it lists TIED to the program's text (the seventh form; the later family's looks); each row that meets fmt, with fmt's text TOLD by the authors' own Lean function (tested against real Go, not proved from fmt's source: count such statements apart). THE CARD IS WHAT COUNTS. Prove the row's statement (the work); the ties are given (YtlgmelkcokkcdaaDoorTie.lean); close each card by the builder's one call (the guide's Derived/Test/ToyasCard.lean, 'card_holds'). Laid BY PROGRAM, IN A SANDBOX (cutbox-door.mjs). By AI agents, Wed Nov 11 2026. No macro, syntax, notation, axiom, sorry.
-/
import Derived.Test.YtlgmelkcokkcdaaDoorRows
import GoSem.ClaimSeven
namespace Go.Proofs.YtlgmelkcokkcdaaDoor
namespace Rows

/-- THE TIED CARD OF 'laws.FnExactReadOrder'. -/
def fnExactReadOrderCard : Claim7 := { stood := { row := fnExactReadOrderRow, standIns := [], harness := (true, "7d75e500d6cca018a0bb5963f9b67dd55c02b4b0ebb9b52ff56a1363e7dedee7"), looks := true }, kinds := [], alts := [], laidByText := true, laidKinds := [.data, .data, .data, .data, .sentinel, .sentinel, .pinned], laidTests := true, laidLooks := .later }
def FnExactReadOrderCardSaid : Prop := Claim7.holds Tryd.pinned (.plain (OpenSpec.ofChange fnExactReadOrderSpec)) fnExactReadOrderCard

/-- THE TIED CARD OF 'laws.FnExactRiseText'. -/
def fnExactRiseTextCard : Claim7 := { stood := { row := fnExactRiseTextRow, standIns := [], harness := (true, "7d75e500d6cca018a0bb5963f9b67dd55c02b4b0ebb9b52ff56a1363e7dedee7"), looks := true }, kinds := [], alts := [], laidByText := true, laidKinds := [.data, .data, .data], laidTests := true, laidLooks := .later }
def FnExactRiseTextCardSaid : Prop := Claim7.holds Tryd.pinned (.plain (OpenSpec.ofChange fnExactRiseTextSpec)) fnExactRiseTextCard

/-- THE TIED CARD OF 'laws.FnExactReadRise'. -/
def fnExactReadRiseCard : Claim7 := { stood := { row := fnExactReadRiseRow, standIns := [], harness := (true, "7d75e500d6cca018a0bb5963f9b67dd55c02b4b0ebb9b52ff56a1363e7dedee7"), looks := true }, kinds := [], alts := [], laidByText := true, laidKinds := [.data, .data, .data, .data, .sentinel, .sentinel, .pinned], laidTests := true, laidLooks := .later }
def FnExactReadRiseCardSaid : Prop := Claim7.holds Tryd.pinned (.plain (OpenSpec.ofChange fnExactReadRiseSpec)) fnExactReadRiseCard

/-- THE TIED CARD OF 'laws.FnPlatforms'. -/
def fnPlatformsCard : Claim7 := { stood := { row := fnPlatformsRow, standIns := [], harness := (true, "7d75e500d6cca018a0bb5963f9b67dd55c02b4b0ebb9b52ff56a1363e7dedee7"), looks := true }, kinds := [], alts := [], laidByText := true, laidKinds := [.data, .data, .data, .data, .sentinel, .sentinel, .pinned], laidTests := true, laidLooks := .later }
def FnPlatformsCardSaid : Prop := Claim7.holds Tryd.pinned (.plain (OpenSpec.ofChange fnPlatformsSpec)) fnPlatformsCard

/-- THE SECOND FORM's CARD OF 'laws.FnExactReadOrder'. -/
def fnExactReadOrderUptoCard : Claim7 := { stood := { row := fnExactReadOrderUptoRow, standIns := [], harness := (true, "7d75e500d6cca018a0bb5963f9b67dd55c02b4b0ebb9b52ff56a1363e7dedee7"), looks := true }, kinds := [], alts := [], laidByText := true, laidKinds := [.data, .data, .data, .data, .sentinel, .sentinel, .pinned], laidTests := true, laidLooks := .later }
def FnExactReadOrderUptoCardSaid : Prop := Claim7.holds Tryd.pinned (.plain (OpenSpec.upto fnExactReadOrderSpec)) fnExactReadOrderUptoCard

/-- THE SECOND FORM's CARD OF 'laws.FnExactRiseText'. -/
def fnExactRiseTextUptoCard : Claim7 := { stood := { row := fnExactRiseTextUptoRow, standIns := [], harness := (true, "7d75e500d6cca018a0bb5963f9b67dd55c02b4b0ebb9b52ff56a1363e7dedee7"), looks := true }, kinds := [], alts := [], laidByText := true, laidKinds := [.data, .data, .data], laidTests := true, laidLooks := .later }
def FnExactRiseTextUptoCardSaid : Prop := Claim7.holds Tryd.pinned (.plain (OpenSpec.upto fnExactRiseTextSpec)) fnExactRiseTextUptoCard

/-- THE SECOND FORM's CARD OF 'laws.FnExactReadRise'. -/
def fnExactReadRiseUptoCard : Claim7 := { stood := { row := fnExactReadRiseUptoRow, standIns := [], harness := (true, "7d75e500d6cca018a0bb5963f9b67dd55c02b4b0ebb9b52ff56a1363e7dedee7"), looks := true }, kinds := [], alts := [], laidByText := true, laidKinds := [.data, .data, .data, .data, .sentinel, .sentinel, .pinned], laidTests := true, laidLooks := .later }
def FnExactReadRiseUptoCardSaid : Prop := Claim7.holds Tryd.pinned (.plain (OpenSpec.upto fnExactReadRiseSpec)) fnExactReadRiseUptoCard

/-- THE SECOND FORM's CARD OF 'laws.FnPlatforms'. -/
def fnPlatformsUptoCard : Claim7 := { stood := { row := fnPlatformsUptoRow, standIns := [], harness := (true, "7d75e500d6cca018a0bb5963f9b67dd55c02b4b0ebb9b52ff56a1363e7dedee7"), looks := true }, kinds := [], alts := [], laidByText := true, laidKinds := [.data, .data, .data, .data, .sentinel, .sentinel, .pinned], laidTests := true, laidLooks := .later }
def FnPlatformsUptoCardSaid : Prop := Claim7.holds Tryd.pinned (.plain (OpenSpec.upto fnPlatformsSpec)) fnPlatformsUptoCard
end Rows
end Go.Proofs.YtlgmelkcokkcdaaDoor
