/-
  DERIVED. GIVEN WITH THE SEED: THE CARDS: each row of YtliiclmhpphpmaaGreatDoorRows.lean that lists a variable, with what it lists TIED to the program's text (the seventh form; the later family's looks); each row that meets fmt, with fmt's text TOLD by the authors' own Lean function (tested against real Go, not proved from fmt's source: count such statements apart). THE CARD IS WHAT COUNTS. Prove the row's statement (the work); the ties are given (YtliiclmhpphpmaaGreatDoorTie.lean); close each card by the builder's one call (the guide's Derived/Test/ToyasCard.lean, 'card_holds'). Laid BY PROGRAM, IN A SANDBOX (cutbox-door.mjs). By AI agents, Wed Nov 11 2026. No macro, syntax, notation, axiom, sorry.
-/
import Derived.Test.YtliiclmhpphpmaaGreatDoorRows
import GoSem.ClaimSeven
namespace Go.Proofs.YtliiclmhpphpmaaGreatDoor
namespace Rows

/-- THE TIED CARD OF 'censustop.TopForests'. -/
def topForestsCard : Claim7 := { stood := { row := topForestsRow, standIns := [], harness := (true, "4246a78fd84c3194820df6ec3446c93f5f52e135143ab0dbcac37faea0da8870"), looks := true }, kinds := [], alts := [], laidByText := true, laidKinds := [.data, .data, .data, .sentinel, .sentinel], laidTests := true, laidLooks := .later }
def TopForestsCardSaid : Prop := Claim7.holds Tryz.pinned (.plain (OpenSpec.ofChange topForestsSpec)) topForestsCard

/-- THE SECOND FORM's CARD OF 'censustop.TopForests'. -/
def topForestsUptoCard : Claim7 := { stood := { row := topForestsUptoRow, standIns := [], harness := (true, "4246a78fd84c3194820df6ec3446c93f5f52e135143ab0dbcac37faea0da8870"), looks := true }, kinds := [], alts := [], laidByText := true, laidKinds := [.data, .data, .data, .sentinel, .sentinel], laidTests := true, laidLooks := .later }
def TopForestsUptoCardSaid : Prop := Claim7.holds Tryz.pinned (.plain (OpenSpec.upto topForestsSpec)) topForestsUptoCard
end Rows
end Go.Proofs.YtliiclmhpphpmaaGreatDoor
