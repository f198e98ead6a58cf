/-
  DERIVED. GIVEN WITH THE SEED: THE CARDS: each row of YtbemhgojfehnjaaDoorRows.lean that lists a variable, with what it lists TIED to the program's text (the seventh form; the later family's looks); each row that meets fmt, with fmt's text TOLD by the authors' own Lean function (tested against real Go, not proved from fmt's source: count such statements apart). THE CARD IS WHAT COUNTS. Prove the row's statement (the work); the ties are given (YtbemhgojfehnjaaDoorTie.lean); close each card by the builder's one call (the guide's Derived/Test/ToyasCard.lean, 'card_holds'). Laid BY PROGRAM, IN A SANDBOX (cutbox-door.mjs). By AI agents, Wed Nov 11 2026. No macro, syntax, notation, axiom, sorry.
-/
import Derived.Test.YtbemhgojfehnjaaDoorRows
import GoSem.ClaimSeven
namespace Go.Proofs.YtbemhgojfehnjaaDoor
namespace Rows

/-- THE TIED CARD OF 'censuslaw07.CircEvals'. -/
def circEvalsCard : Claim7 := { stood := { row := circEvalsRow, standIns := [], harness := (true, "d56f83b6f3a6cecde02b9396788d931dd94f9816c317d20afcd410b9795b769f"), looks := false }, kinds := [], alts := [], laidByText := true, laidKinds := [.data, .data, .data], laidTests := true, laidLooks := .later }
def CircEvalsCardSaid : Prop := Claim7.holds Tryd.pinned (.plain (OpenSpec.ofChange circEvalsSpec)) circEvalsCard

/-- THE TIED CARD OF 'censuslaw07.CircFolds'. -/
def circFoldsCard : Claim7 := { stood := { row := circFoldsRow, standIns := [], harness := (true, "d56f83b6f3a6cecde02b9396788d931dd94f9816c317d20afcd410b9795b769f"), looks := false }, kinds := [], alts := [], laidByText := true, laidKinds := [.data, .data, .data], laidTests := true, laidLooks := .later }
def CircFoldsCardSaid : Prop := Claim7.holds Tryd.pinned (.plain (OpenSpec.ofChange circFoldsSpec)) circFoldsCard

/-- THE TIED CARD OF 'censuslaw07.CircSames'. -/
def circSamesCard : Claim7 := { stood := { row := circSamesRow, standIns := [], harness := (true, "d56f83b6f3a6cecde02b9396788d931dd94f9816c317d20afcd410b9795b769f"), looks := false }, kinds := [], alts := [], laidByText := true, laidKinds := [.data, .data, .data], laidTests := true, laidLooks := .later }
def CircSamesCardSaid : Prop := Claim7.holds Tryd.pinned (.plain (OpenSpec.ofChange circSamesSpec)) circSamesCard

/-- THE TIED CARD OF 'censuslaw07.CircKeeps'. -/
def circKeepsCard : Claim7 := { stood := { row := circKeepsRow, standIns := [], harness := (true, "d56f83b6f3a6cecde02b9396788d931dd94f9816c317d20afcd410b9795b769f"), looks := false }, kinds := [], alts := [], laidByText := true, laidKinds := [.data, .data, .data], laidTests := true, laidLooks := .later }
def CircKeepsCardSaid : Prop := Claim7.holds Tryd.pinned (.plain (OpenSpec.ofChange circKeepsSpec)) circKeepsCard

/-- THE TIED CARD OF 'censuslaw07.CircSimple'. -/
def circSimpleCard : Claim7 := { stood := { row := circSimpleRow, standIns := [], harness := (true, "d56f83b6f3a6cecde02b9396788d931dd94f9816c317d20afcd410b9795b769f"), looks := false }, kinds := [], alts := [], laidByText := true, laidKinds := [.data, .data, .data], laidTests := true, laidLooks := .later }
def CircSimpleCardSaid : Prop := Claim7.holds Tryd.pinned (.plain (OpenSpec.ofChange circSimpleSpec)) circSimpleCard

/-- THE TIED CARD OF 'censuslaw07.CircTwice'. -/
def circTwiceCard : Claim7 := { stood := { row := circTwiceRow, standIns := [], harness := (true, "d56f83b6f3a6cecde02b9396788d931dd94f9816c317d20afcd410b9795b769f"), looks := false }, kinds := [], alts := [], laidByText := true, laidKinds := [.data, .data, .data], laidTests := true, laidLooks := .later }
def CircTwiceCardSaid : Prop := Claim7.holds Tryd.pinned (.plain (OpenSpec.ofChange circTwiceSpec)) circTwiceCard

/-- THE TIED CARD OF 'censuslaw07.CircLong'. -/
def circLongCard : Claim7 := { stood := { row := circLongRow, standIns := [], harness := (true, "d56f83b6f3a6cecde02b9396788d931dd94f9816c317d20afcd410b9795b769f"), looks := false }, kinds := [], alts := [], laidByText := true, laidKinds := [.data, .data, .data], laidTests := true, laidLooks := .later }
def CircLongCardSaid : Prop := Claim7.holds Tryd.pinned (.plain (OpenSpec.ofChange circLongSpec)) circLongCard

/-- THE TIED CARD OF 'censuslaw07.CircKnown'. -/
def circKnownCard : Claim7 := { stood := { row := circKnownRow, standIns := [], harness := (true, "d56f83b6f3a6cecde02b9396788d931dd94f9816c317d20afcd410b9795b769f"), looks := false }, kinds := [], alts := [], laidByText := true, laidKinds := [.data, .data, .data], laidTests := true, laidLooks := .later }
def CircKnownCardSaid : Prop := Claim7.holds Tryd.pinned (.plain (OpenSpec.ofChange circKnownSpec)) circKnownCard

/-- THE TIED CARD OF 'censuslaw07.CircChecks'. -/
def circChecksCard : Claim7 := { stood := { row := circChecksRow, standIns := [], harness := (true, "d56f83b6f3a6cecde02b9396788d931dd94f9816c317d20afcd410b9795b769f"), looks := false }, kinds := [], alts := [], laidByText := true, laidKinds := [.data, .data, .data], laidTests := true, laidLooks := .later }
def CircChecksCardSaid : Prop := Claim7.holds Tryd.pinned (.plain (OpenSpec.ofChange circChecksSpec)) circChecksCard

/-- THE TIED CARD OF 'censuslaw07.CircVars'. -/
def circVarsCard : Claim7 := { stood := { row := circVarsRow, standIns := [], harness := (true, "d56f83b6f3a6cecde02b9396788d931dd94f9816c317d20afcd410b9795b769f"), looks := false }, kinds := [], alts := [], laidByText := true, laidKinds := [.data, .data, .data], laidTests := true, laidLooks := .later }
def CircVarsCardSaid : Prop := Claim7.holds Tryd.pinned (.plain (OpenSpec.ofChange circVarsSpec)) circVarsCard

/-- THE SECOND FORM's CARD OF 'censuslaw07.CircEvals'. -/
def circEvalsUptoCard : Claim7 := { stood := { row := circEvalsUptoRow, standIns := [], harness := (true, "d56f83b6f3a6cecde02b9396788d931dd94f9816c317d20afcd410b9795b769f"), looks := false }, kinds := [], alts := [], laidByText := true, laidKinds := [.data, .data, .data], laidTests := true, laidLooks := .later }
def CircEvalsUptoCardSaid : Prop := Claim7.holds Tryd.pinned (.plain (OpenSpec.upto circEvalsSpec)) circEvalsUptoCard

/-- THE SECOND FORM's CARD OF 'censuslaw07.CircFolds'. -/
def circFoldsUptoCard : Claim7 := { stood := { row := circFoldsUptoRow, standIns := [], harness := (true, "d56f83b6f3a6cecde02b9396788d931dd94f9816c317d20afcd410b9795b769f"), looks := false }, kinds := [], alts := [], laidByText := true, laidKinds := [.data, .data, .data], laidTests := true, laidLooks := .later }
def CircFoldsUptoCardSaid : Prop := Claim7.holds Tryd.pinned (.plain (OpenSpec.upto circFoldsSpec)) circFoldsUptoCard

/-- THE SECOND FORM's CARD OF 'censuslaw07.CircSames'. -/
def circSamesUptoCard : Claim7 := { stood := { row := circSamesUptoRow, standIns := [], harness := (true, "d56f83b6f3a6cecde02b9396788d931dd94f9816c317d20afcd410b9795b769f"), looks := false }, kinds := [], alts := [], laidByText := true, laidKinds := [.data, .data, .data], laidTests := true, laidLooks := .later }
def CircSamesUptoCardSaid : Prop := Claim7.holds Tryd.pinned (.plain (OpenSpec.upto circSamesSpec)) circSamesUptoCard

/-- THE SECOND FORM's CARD OF 'censuslaw07.CircKeeps'. -/
def circKeepsUptoCard : Claim7 := { stood := { row := circKeepsUptoRow, standIns := [], harness := (true, "d56f83b6f3a6cecde02b9396788d931dd94f9816c317d20afcd410b9795b769f"), looks := false }, kinds := [], alts := [], laidByText := true, laidKinds := [.data, .data, .data], laidTests := true, laidLooks := .later }
def CircKeepsUptoCardSaid : Prop := Claim7.holds Tryd.pinned (.plain (OpenSpec.upto circKeepsSpec)) circKeepsUptoCard

/-- THE SECOND FORM's CARD OF 'censuslaw07.CircSimple'. -/
def circSimpleUptoCard : Claim7 := { stood := { row := circSimpleUptoRow, standIns := [], harness := (true, "d56f83b6f3a6cecde02b9396788d931dd94f9816c317d20afcd410b9795b769f"), looks := false }, kinds := [], alts := [], laidByText := true, laidKinds := [.data, .data, .data], laidTests := true, laidLooks := .later }
def CircSimpleUptoCardSaid : Prop := Claim7.holds Tryd.pinned (.plain (OpenSpec.upto circSimpleSpec)) circSimpleUptoCard

/-- THE SECOND FORM's CARD OF 'censuslaw07.CircTwice'. -/
def circTwiceUptoCard : Claim7 := { stood := { row := circTwiceUptoRow, standIns := [], harness := (true, "d56f83b6f3a6cecde02b9396788d931dd94f9816c317d20afcd410b9795b769f"), looks := false }, kinds := [], alts := [], laidByText := true, laidKinds := [.data, .data, .data], laidTests := true, laidLooks := .later }
def CircTwiceUptoCardSaid : Prop := Claim7.holds Tryd.pinned (.plain (OpenSpec.upto circTwiceSpec)) circTwiceUptoCard

/-- THE SECOND FORM's CARD OF 'censuslaw07.CircLong'. -/
def circLongUptoCard : Claim7 := { stood := { row := circLongUptoRow, standIns := [], harness := (true, "d56f83b6f3a6cecde02b9396788d931dd94f9816c317d20afcd410b9795b769f"), looks := false }, kinds := [], alts := [], laidByText := true, laidKinds := [.data, .data, .data], laidTests := true, laidLooks := .later }
def CircLongUptoCardSaid : Prop := Claim7.holds Tryd.pinned (.plain (OpenSpec.upto circLongSpec)) circLongUptoCard

/-- THE SECOND FORM's CARD OF 'censuslaw07.CircKnown'. -/
def circKnownUptoCard : Claim7 := { stood := { row := circKnownUptoRow, standIns := [], harness := (true, "d56f83b6f3a6cecde02b9396788d931dd94f9816c317d20afcd410b9795b769f"), looks := false }, kinds := [], alts := [], laidByText := true, laidKinds := [.data, .data, .data], laidTests := true, laidLooks := .later }
def CircKnownUptoCardSaid : Prop := Claim7.holds Tryd.pinned (.plain (OpenSpec.upto circKnownSpec)) circKnownUptoCard

/-- THE SECOND FORM's CARD OF 'censuslaw07.CircChecks'. -/
def circChecksUptoCard : Claim7 := { stood := { row := circChecksUptoRow, standIns := [], harness := (true, "d56f83b6f3a6cecde02b9396788d931dd94f9816c317d20afcd410b9795b769f"), looks := false }, kinds := [], alts := [], laidByText := true, laidKinds := [.data, .data, .data], laidTests := true, laidLooks := .later }
def CircChecksUptoCardSaid : Prop := Claim7.holds Tryd.pinned (.plain (OpenSpec.upto circChecksSpec)) circChecksUptoCard

/-- THE SECOND FORM's CARD OF 'censuslaw07.CircVars'. -/
def circVarsUptoCard : Claim7 := { stood := { row := circVarsUptoRow, standIns := [], harness := (true, "d56f83b6f3a6cecde02b9396788d931dd94f9816c317d20afcd410b9795b769f"), looks := false }, kinds := [], alts := [], laidByText := true, laidKinds := [.data, .data, .data], laidTests := true, laidLooks := .later }
def CircVarsUptoCardSaid : Prop := Claim7.holds Tryd.pinned (.plain (OpenSpec.upto circVarsSpec)) circVarsUptoCard
end Rows
end Go.Proofs.YtbemhgojfehnjaaDoor
