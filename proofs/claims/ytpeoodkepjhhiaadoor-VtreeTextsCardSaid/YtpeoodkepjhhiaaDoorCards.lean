/-
  DERIVED. GIVEN WITH THE SEED: THE CARDS: each row of YtpeoodkepjhhiaaDoorRows.lean that lists a variable, with what it lists TIED to the program's text (the seventh form; the later family's looks); each row that meets fmt, with fmt's text TOLD by the authors' own Lean function (tested against real Go, not proved from fmt's source: count such statements apart). THE CARD IS WHAT COUNTS. Prove the row's statement (the work); the ties are given (YtpeoodkepjhhiaaDoorTie.lean); close each card by the builder's one call (the guide's Derived/Test/ToyasCard.lean, 'card_holds'). Laid BY PROGRAM, IN A SANDBOX (cutbox-door.mjs). By AI agents, Wed Nov 11 2026. No macro, syntax, notation, axiom, sorry.
-/
import Derived.Test.YtpeoodkepjhhiaaDoorRows
import GoSem.ClaimSeven
namespace Go.Proofs.YtpeoodkepjhhiaaDoor
namespace Rows

/-- THE TIED CARD OF 'censuslaw25.VtreeMeets'. -/
def vtreeMeetsCard : Claim7 := { stood := { row := vtreeMeetsRow, standIns := [], harness := (true, "ca2d9fe69ea37095432493e1f6b16ce64ec42e2ba05a88fab5b8ff279e84e55b"), looks := false }, kinds := [], alts := [], laidByText := true, laidKinds := [.data, .data, .data], laidTests := true, laidLooks := .later }
def VtreeMeetsCardSaid : Prop := Claim7.holds Tryd.pinned (.plain (OpenSpec.ofChange vtreeMeetsSpec)) vtreeMeetsCard

/-- THE TIED CARD OF 'censuslaw25.VtreeReads'. -/
def vtreeReadsCard : Claim7 := { stood := { row := vtreeReadsRow, standIns := [], harness := (true, "ca2d9fe69ea37095432493e1f6b16ce64ec42e2ba05a88fab5b8ff279e84e55b"), looks := false }, kinds := [], alts := [], laidByText := true, laidKinds := [.data, .data, .data], laidTests := true, laidLooks := .later }
def VtreeReadsCardSaid : Prop := Claim7.holds Tryd.pinned (.plain (OpenSpec.ofChange vtreeReadsSpec)) vtreeReadsCard

/-- THE TIED CARD OF 'censuslaw25.VtreeTexts'. -/
def vtreeTextsCard : Claim7 := { stood := { row := vtreeTextsRow, standIns := [], harness := (true, "ca2d9fe69ea37095432493e1f6b16ce64ec42e2ba05a88fab5b8ff279e84e55b"), looks := false }, kinds := [], alts := [], laidByText := true, laidKinds := [.data, .data, .data], laidTests := true, laidLooks := .later }
def VtreeTextsCardSaid : Prop := Claim7.holds Tryd.pinned (.plain (OpenSpec.ofChange vtreeTextsSpec)) vtreeTextsCard

/-- THE TIED CARD OF 'censuslaw25.VtreeMakes'. -/
def vtreeMakesCard : Claim7 := { stood := { row := vtreeMakesRow, standIns := [], harness := (true, "ca2d9fe69ea37095432493e1f6b16ce64ec42e2ba05a88fab5b8ff279e84e55b"), looks := false }, kinds := [], alts := [], laidByText := true, laidKinds := [.data, .data, .data], laidTests := true, laidLooks := .later }
def VtreeMakesCardSaid : Prop := Claim7.holds Tryd.pinned (.plain (OpenSpec.ofChange vtreeMakesSpec)) vtreeMakesCard

/-- THE TIED CARD OF 'censuslaw25.VtreeDepth'. -/
def vtreeDepthCard : Claim7 := { stood := { row := vtreeDepthRow, standIns := [], harness := (true, "ca2d9fe69ea37095432493e1f6b16ce64ec42e2ba05a88fab5b8ff279e84e55b"), looks := false }, kinds := [], alts := [], laidByText := true, laidKinds := [.data, .data, .data], laidTests := true, laidLooks := .later }
def VtreeDepthCardSaid : Prop := Claim7.holds Tryd.pinned (.plain (OpenSpec.ofChange vtreeDepthSpec)) vtreeDepthCard

/-- THE TIED CARD OF 'censuslaw25.VtreeMoves'. -/
def vtreeMovesCard : Claim7 := { stood := { row := vtreeMovesRow, standIns := [], harness := (true, "ca2d9fe69ea37095432493e1f6b16ce64ec42e2ba05a88fab5b8ff279e84e55b"), looks := false }, kinds := [], alts := [], laidByText := true, laidKinds := [.data, .data, .data], laidTests := true, laidLooks := .later }
def VtreeMovesCardSaid : Prop := Claim7.holds Tryd.pinned (.plain (OpenSpec.ofChange vtreeMovesSpec)) vtreeMovesCard

/-- THE TIED CARD OF 'censuslaw25.VtreeBack'. -/
def vtreeBackCard : Claim7 := { stood := { row := vtreeBackRow, standIns := [], harness := (true, "ca2d9fe69ea37095432493e1f6b16ce64ec42e2ba05a88fab5b8ff279e84e55b"), looks := false }, kinds := [], alts := [], laidByText := true, laidKinds := [.data, .data, .data], laidTests := true, laidLooks := .later }
def VtreeBackCardSaid : Prop := Claim7.holds Tryd.pinned (.plain (OpenSpec.ofChange vtreeBackSpec)) vtreeBackCard

/-- THE TIED CARD OF 'censuslaw25.VtreeChecks'. -/
def vtreeChecksCard : Claim7 := { stood := { row := vtreeChecksRow, standIns := [], harness := (true, "ca2d9fe69ea37095432493e1f6b16ce64ec42e2ba05a88fab5b8ff279e84e55b"), looks := false }, kinds := [], alts := [], laidByText := true, laidKinds := [.data, .data, .data], laidTests := true, laidLooks := .later }
def VtreeChecksCardSaid : Prop := Claim7.holds Tryd.pinned (.plain (OpenSpec.ofChange vtreeChecksSpec)) vtreeChecksCard

/-- THE TIED CARD OF 'censuslaw25.VtreeAbove'. -/
def vtreeAboveCard : Claim7 := { stood := { row := vtreeAboveRow, standIns := [], harness := (true, "ca2d9fe69ea37095432493e1f6b16ce64ec42e2ba05a88fab5b8ff279e84e55b"), looks := false }, kinds := [], alts := [], laidByText := true, laidKinds := [.data, .data, .data], laidTests := true, laidLooks := .later }
def VtreeAboveCardSaid : Prop := Claim7.holds Tryd.pinned (.plain (OpenSpec.ofChange vtreeAboveSpec)) vtreeAboveCard

/-- THE TIED CARD OF 'censuslaw25.VtreeKeeps'. -/
def vtreeKeepsCard : Claim7 := { stood := { row := vtreeKeepsRow, standIns := [], harness := (true, "ca2d9fe69ea37095432493e1f6b16ce64ec42e2ba05a88fab5b8ff279e84e55b"), looks := false }, kinds := [], alts := [], laidByText := true, laidKinds := [.data, .data, .data], laidTests := true, laidLooks := .later }
def VtreeKeepsCardSaid : Prop := Claim7.holds Tryd.pinned (.plain (OpenSpec.ofChange vtreeKeepsSpec)) vtreeKeepsCard

/-- THE TIED CARD OF 'censuslaw25.VtreeKnown'. -/
def vtreeKnownCard : Claim7 := { stood := { row := vtreeKnownRow, standIns := [], harness := (true, "ca2d9fe69ea37095432493e1f6b16ce64ec42e2ba05a88fab5b8ff279e84e55b"), looks := false }, kinds := [], alts := [], laidByText := true, laidKinds := [.data, .data, .data], laidTests := true, laidLooks := .later }
def VtreeKnownCardSaid : Prop := Claim7.holds Tryd.pinned (.plain (OpenSpec.ofChange vtreeKnownSpec)) vtreeKnownCard

/-- THE SECOND FORM's CARD OF 'censuslaw25.VtreeMeets'. -/
def vtreeMeetsUptoCard : Claim7 := { stood := { row := vtreeMeetsUptoRow, standIns := [], harness := (true, "ca2d9fe69ea37095432493e1f6b16ce64ec42e2ba05a88fab5b8ff279e84e55b"), looks := false }, kinds := [], alts := [], laidByText := true, laidKinds := [.data, .data, .data], laidTests := true, laidLooks := .later }
def VtreeMeetsUptoCardSaid : Prop := Claim7.holds Tryd.pinned (.plain (OpenSpec.upto vtreeMeetsSpec)) vtreeMeetsUptoCard

/-- THE SECOND FORM's CARD OF 'censuslaw25.VtreeReads'. -/
def vtreeReadsUptoCard : Claim7 := { stood := { row := vtreeReadsUptoRow, standIns := [], harness := (true, "ca2d9fe69ea37095432493e1f6b16ce64ec42e2ba05a88fab5b8ff279e84e55b"), looks := false }, kinds := [], alts := [], laidByText := true, laidKinds := [.data, .data, .data], laidTests := true, laidLooks := .later }
def VtreeReadsUptoCardSaid : Prop := Claim7.holds Tryd.pinned (.plain (OpenSpec.upto vtreeReadsSpec)) vtreeReadsUptoCard

/-- THE SECOND FORM's CARD OF 'censuslaw25.VtreeTexts'. -/
def vtreeTextsUptoCard : Claim7 := { stood := { row := vtreeTextsUptoRow, standIns := [], harness := (true, "ca2d9fe69ea37095432493e1f6b16ce64ec42e2ba05a88fab5b8ff279e84e55b"), looks := false }, kinds := [], alts := [], laidByText := true, laidKinds := [.data, .data, .data], laidTests := true, laidLooks := .later }
def VtreeTextsUptoCardSaid : Prop := Claim7.holds Tryd.pinned (.plain (OpenSpec.upto vtreeTextsSpec)) vtreeTextsUptoCard

/-- THE SECOND FORM's CARD OF 'censuslaw25.VtreeMakes'. -/
def vtreeMakesUptoCard : Claim7 := { stood := { row := vtreeMakesUptoRow, standIns := [], harness := (true, "ca2d9fe69ea37095432493e1f6b16ce64ec42e2ba05a88fab5b8ff279e84e55b"), looks := false }, kinds := [], alts := [], laidByText := true, laidKinds := [.data, .data, .data], laidTests := true, laidLooks := .later }
def VtreeMakesUptoCardSaid : Prop := Claim7.holds Tryd.pinned (.plain (OpenSpec.upto vtreeMakesSpec)) vtreeMakesUptoCard

/-- THE SECOND FORM's CARD OF 'censuslaw25.VtreeDepth'. -/
def vtreeDepthUptoCard : Claim7 := { stood := { row := vtreeDepthUptoRow, standIns := [], harness := (true, "ca2d9fe69ea37095432493e1f6b16ce64ec42e2ba05a88fab5b8ff279e84e55b"), looks := false }, kinds := [], alts := [], laidByText := true, laidKinds := [.data, .data, .data], laidTests := true, laidLooks := .later }
def VtreeDepthUptoCardSaid : Prop := Claim7.holds Tryd.pinned (.plain (OpenSpec.upto vtreeDepthSpec)) vtreeDepthUptoCard

/-- THE SECOND FORM's CARD OF 'censuslaw25.VtreeMoves'. -/
def vtreeMovesUptoCard : Claim7 := { stood := { row := vtreeMovesUptoRow, standIns := [], harness := (true, "ca2d9fe69ea37095432493e1f6b16ce64ec42e2ba05a88fab5b8ff279e84e55b"), looks := false }, kinds := [], alts := [], laidByText := true, laidKinds := [.data, .data, .data], laidTests := true, laidLooks := .later }
def VtreeMovesUptoCardSaid : Prop := Claim7.holds Tryd.pinned (.plain (OpenSpec.upto vtreeMovesSpec)) vtreeMovesUptoCard

/-- THE SECOND FORM's CARD OF 'censuslaw25.VtreeBack'. -/
def vtreeBackUptoCard : Claim7 := { stood := { row := vtreeBackUptoRow, standIns := [], harness := (true, "ca2d9fe69ea37095432493e1f6b16ce64ec42e2ba05a88fab5b8ff279e84e55b"), looks := false }, kinds := [], alts := [], laidByText := true, laidKinds := [.data, .data, .data], laidTests := true, laidLooks := .later }
def VtreeBackUptoCardSaid : Prop := Claim7.holds Tryd.pinned (.plain (OpenSpec.upto vtreeBackSpec)) vtreeBackUptoCard

/-- THE SECOND FORM's CARD OF 'censuslaw25.VtreeChecks'. -/
def vtreeChecksUptoCard : Claim7 := { stood := { row := vtreeChecksUptoRow, standIns := [], harness := (true, "ca2d9fe69ea37095432493e1f6b16ce64ec42e2ba05a88fab5b8ff279e84e55b"), looks := false }, kinds := [], alts := [], laidByText := true, laidKinds := [.data, .data, .data], laidTests := true, laidLooks := .later }
def VtreeChecksUptoCardSaid : Prop := Claim7.holds Tryd.pinned (.plain (OpenSpec.upto vtreeChecksSpec)) vtreeChecksUptoCard

/-- THE SECOND FORM's CARD OF 'censuslaw25.VtreeAbove'. -/
def vtreeAboveUptoCard : Claim7 := { stood := { row := vtreeAboveUptoRow, standIns := [], harness := (true, "ca2d9fe69ea37095432493e1f6b16ce64ec42e2ba05a88fab5b8ff279e84e55b"), looks := false }, kinds := [], alts := [], laidByText := true, laidKinds := [.data, .data, .data], laidTests := true, laidLooks := .later }
def VtreeAboveUptoCardSaid : Prop := Claim7.holds Tryd.pinned (.plain (OpenSpec.upto vtreeAboveSpec)) vtreeAboveUptoCard

/-- THE SECOND FORM's CARD OF 'censuslaw25.VtreeKeeps'. -/
def vtreeKeepsUptoCard : Claim7 := { stood := { row := vtreeKeepsUptoRow, standIns := [], harness := (true, "ca2d9fe69ea37095432493e1f6b16ce64ec42e2ba05a88fab5b8ff279e84e55b"), looks := false }, kinds := [], alts := [], laidByText := true, laidKinds := [.data, .data, .data], laidTests := true, laidLooks := .later }
def VtreeKeepsUptoCardSaid : Prop := Claim7.holds Tryd.pinned (.plain (OpenSpec.upto vtreeKeepsSpec)) vtreeKeepsUptoCard

/-- THE SECOND FORM's CARD OF 'censuslaw25.VtreeKnown'. -/
def vtreeKnownUptoCard : Claim7 := { stood := { row := vtreeKnownUptoRow, standIns := [], harness := (true, "ca2d9fe69ea37095432493e1f6b16ce64ec42e2ba05a88fab5b8ff279e84e55b"), looks := false }, kinds := [], alts := [], laidByText := true, laidKinds := [.data, .data, .data], laidTests := true, laidLooks := .later }
def VtreeKnownUptoCardSaid : Prop := Claim7.holds Tryd.pinned (.plain (OpenSpec.upto vtreeKnownSpec)) vtreeKnownUptoCard
end Rows
end Go.Proofs.YtpeoodkepjhhiaaDoor
