/-
  DERIVED. GIVEN WITH THE SEED: THE CARDS: each row of YtcbckeoalmjcoaaDoorRows.lean that lists a variable, with what it lists TIED to the program's text (the seventh form; the later family's looks); each row that meets fmt, with fmt's text TOLD by the authors' own Lean function (tested against real Go, not proved from fmt's source: count such statements apart). THE CARD IS WHAT COUNTS. Prove the row's statement (the work); the ties are given (YtcbckeoalmjcoaaDoorTie.lean); close each card by the builder's one call (the guide's Derived/Test/ToyasCard.lean, 'card_holds'). Laid BY PROGRAM, IN A SANDBOX (cutbox-door.mjs). By AI agents, Wed Nov 11 2026. No macro, syntax, notation, axiom, sorry.
-/
import Derived.Test.YtcbckeoalmjcoaaDoorRows
import GoSem.ClaimSeven
namespace Go.Proofs.YtcbckeoalmjcoaaDoor
namespace Rows

/-- THE TIED CARD OF 'cortegelaw03.IdentTells'. -/
def identTellsCard : Claim7 := { stood := { row := identTellsRow, standIns := [], harness := (true, "8305fd96bf86ba64b7a75191e19f65e25d311d5ce28f6c88c845e96382dcf7cd"), looks := true }, kinds := [], alts := [], laidByText := true, laidKinds := [.data, .data, .data, .sentinel, .sentinel], laidTests := true, laidLooks := .later }
def IdentTellsCardSaid : Prop := Claim7.holds Tryd.pinned (.plain (OpenSpec.ofChange identTellsSpec)) identTellsCard

/-- THE TIED CARD OF 'cortegelaw03.IdentReads'. -/
def identReadsCard : Claim7 := { stood := { row := identReadsRow, standIns := [], harness := (true, "8305fd96bf86ba64b7a75191e19f65e25d311d5ce28f6c88c845e96382dcf7cd"), looks := true }, kinds := [], alts := [], laidByText := true, laidKinds := [.data, .data, .data, .sentinel, .sentinel], laidTests := true, laidLooks := .later }
def IdentReadsCardSaid : Prop := Claim7.holds Tryd.pinned (.plain (OpenSpec.ofChange identReadsSpec)) identReadsCard

/-- THE TIED CARD OF 'cortegelaw03.IdentLists'. -/
def identListsCard : Claim7 := { stood := { row := identListsRow, standIns := [], harness := (true, "8305fd96bf86ba64b7a75191e19f65e25d311d5ce28f6c88c845e96382dcf7cd"), looks := true }, kinds := [], alts := [], laidByText := true, laidKinds := [.data, .data, .data, .sentinel, .sentinel], laidTests := true, laidLooks := .later }
def IdentListsCardSaid : Prop := Claim7.holds Tryd.pinned (.plain (OpenSpec.ofChange identListsSpec)) identListsCard

/-- THE TIED CARD OF 'cortegelaw02.ExactTexts'. -/
def exactTextsCard : Claim7 := { stood := { row := exactTextsRow, standIns := [], harness := (true, "8305fd96bf86ba64b7a75191e19f65e25d311d5ce28f6c88c845e96382dcf7cd"), looks := true }, kinds := [], alts := [], laidByText := true, laidKinds := [.data, .data, .data, .sentinel, .sentinel], laidTests := true, laidLooks := .later }
def ExactTextsCardSaid : Prop := Claim7.holds Tryd.pinned (.plain (OpenSpec.ofChange exactTextsSpec)) exactTextsCard

/-- THE TIED CARD OF 'cortegelaw02.ExactReads'. -/
def exactReadsCard : Claim7 := { stood := { row := exactReadsRow, standIns := [], harness := (true, "8305fd96bf86ba64b7a75191e19f65e25d311d5ce28f6c88c845e96382dcf7cd"), looks := true }, kinds := [], alts := [], laidByText := true, laidKinds := [.data, .data, .data, .sentinel, .sentinel], laidTests := true, laidLooks := .later }
def ExactReadsCardSaid : Prop := Claim7.holds Tryd.pinned (.plain (OpenSpec.ofChange exactReadsSpec)) exactReadsCard

/-- THE TIED CARD OF 'cortegelaw06.CmdPairs'. -/
def cmdPairsCard : Claim7 := { stood := { row := cmdPairsRow, standIns := [], harness := (true, "8305fd96bf86ba64b7a75191e19f65e25d311d5ce28f6c88c845e96382dcf7cd"), looks := true }, kinds := [], alts := [], laidByText := true, laidKinds := [.data, .data, .data, .data, .sentinel, .sentinel, .pinned], laidTests := true, laidLooks := .later }
def CmdPairsCardSaid : Prop := Claim7.holds Tryd.pinned (.plain (OpenSpec.ofChange cmdPairsSpec)) cmdPairsCard

/-- THE SECOND FORM's CARD OF 'cortegelaw03.IdentTells'. -/
def identTellsUptoCard : Claim7 := { stood := { row := identTellsUptoRow, standIns := [], harness := (true, "8305fd96bf86ba64b7a75191e19f65e25d311d5ce28f6c88c845e96382dcf7cd"), looks := true }, kinds := [], alts := [], laidByText := true, laidKinds := [.data, .data, .data, .sentinel, .sentinel], laidTests := true, laidLooks := .later }
def IdentTellsUptoCardSaid : Prop := Claim7.holds Tryd.pinned (.plain (OpenSpec.upto identTellsSpec)) identTellsUptoCard

/-- THE SECOND FORM's CARD OF 'cortegelaw03.IdentReads'. -/
def identReadsUptoCard : Claim7 := { stood := { row := identReadsUptoRow, standIns := [], harness := (true, "8305fd96bf86ba64b7a75191e19f65e25d311d5ce28f6c88c845e96382dcf7cd"), looks := true }, kinds := [], alts := [], laidByText := true, laidKinds := [.data, .data, .data, .sentinel, .sentinel], laidTests := true, laidLooks := .later }
def IdentReadsUptoCardSaid : Prop := Claim7.holds Tryd.pinned (.plain (OpenSpec.upto identReadsSpec)) identReadsUptoCard

/-- THE SECOND FORM's CARD OF 'cortegelaw03.IdentLists'. -/
def identListsUptoCard : Claim7 := { stood := { row := identListsUptoRow, standIns := [], harness := (true, "8305fd96bf86ba64b7a75191e19f65e25d311d5ce28f6c88c845e96382dcf7cd"), looks := true }, kinds := [], alts := [], laidByText := true, laidKinds := [.data, .data, .data, .sentinel, .sentinel], laidTests := true, laidLooks := .later }
def IdentListsUptoCardSaid : Prop := Claim7.holds Tryd.pinned (.plain (OpenSpec.upto identListsSpec)) identListsUptoCard

/-- THE SECOND FORM's CARD OF 'cortegelaw02.ExactTexts'. -/
def exactTextsUptoCard : Claim7 := { stood := { row := exactTextsUptoRow, standIns := [], harness := (true, "8305fd96bf86ba64b7a75191e19f65e25d311d5ce28f6c88c845e96382dcf7cd"), looks := true }, kinds := [], alts := [], laidByText := true, laidKinds := [.data, .data, .data, .sentinel, .sentinel], laidTests := true, laidLooks := .later }
def ExactTextsUptoCardSaid : Prop := Claim7.holds Tryd.pinned (.plain (OpenSpec.upto exactTextsSpec)) exactTextsUptoCard

/-- THE SECOND FORM's CARD OF 'cortegelaw02.ExactReads'. -/
def exactReadsUptoCard : Claim7 := { stood := { row := exactReadsUptoRow, standIns := [], harness := (true, "8305fd96bf86ba64b7a75191e19f65e25d311d5ce28f6c88c845e96382dcf7cd"), looks := true }, kinds := [], alts := [], laidByText := true, laidKinds := [.data, .data, .data, .sentinel, .sentinel], laidTests := true, laidLooks := .later }
def ExactReadsUptoCardSaid : Prop := Claim7.holds Tryd.pinned (.plain (OpenSpec.upto exactReadsSpec)) exactReadsUptoCard

/-- THE SECOND FORM's CARD OF 'cortegelaw06.CmdPairs'. -/
def cmdPairsUptoCard : Claim7 := { stood := { row := cmdPairsUptoRow, standIns := [], harness := (true, "8305fd96bf86ba64b7a75191e19f65e25d311d5ce28f6c88c845e96382dcf7cd"), looks := true }, kinds := [], alts := [], laidByText := true, laidKinds := [.data, .data, .data, .data, .sentinel, .sentinel, .pinned], laidTests := true, laidLooks := .later }
def CmdPairsUptoCardSaid : Prop := Claim7.holds Tryd.pinned (.plain (OpenSpec.upto cmdPairsSpec)) cmdPairsUptoCard
end Rows
end Go.Proofs.YtcbckeoalmjcoaaDoor
