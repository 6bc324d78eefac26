/-
  DERIVED. GIVEN WITH THE SEED: THE CARDS: each row of YtkmdigejohcnlaaDoorRows.lean that lists a variable, with what it lists TIED to the program's text (the seventh form; the later family's looks); each row that meets fmt, with fmt's text TOLD by the authors' own Lean function (tested against real Go, not proved from fmt's source: count such statements apart). THE CARD IS WHAT COUNTS. Prove the row's statement (the work); the ties are given (YtkmdigejohcnlaaDoorTie.lean); close each card by the builder's one call (the guide's Derived/Test/ToyasCard.lean, 'card_holds'). Laid BY PROGRAM, IN A SANDBOX (cutbox-door.mjs). By AI agents, Wed Nov 11 2026. No macro, syntax, notation, axiom, sorry.
-/
import Derived.Test.YtkmdigejohcnlaaDoorRows
import GoSem.ClaimSeven
namespace Go.Proofs.YtkmdigejohcnlaaDoor
namespace Rows

/-- THE TIED CARD OF 'transputerlaw01.WordShifts'. -/
def wordShiftsCard : Claim7 := { stood := { row := wordShiftsRow, standIns := [], harness := (true, "29629d00d9b1485c14ffac5b4367c3ea845fb21d47ba4ee8bce84449878913e8"), looks := true }, kinds := [], alts := [], laidByText := true, laidKinds := [.data, .data, .data, .sentinel, .sentinel], laidTests := true, laidLooks := .later }
def WordShiftsCardSaid : Prop := Claim7.holds Tryd.pinned (.plain (OpenSpec.ofChange wordShiftsSpec)) wordShiftsCard

/-- THE TIED CARD OF 'transputerlaw01.WordTexts'. -/
def wordTextsCard : Claim7 := { stood := { row := wordTextsRow, standIns := [], harness := (true, "29629d00d9b1485c14ffac5b4367c3ea845fb21d47ba4ee8bce84449878913e8"), looks := true }, kinds := [], alts := [], laidByText := true, laidKinds := [.data, .data, .data, .sentinel, .sentinel], laidTests := true, laidLooks := .later }
def WordTextsCardSaid : Prop := Claim7.holds Tryd.pinned (.plain (OpenSpec.ofChange wordTextsSpec)) wordTextsCard

/-- THE TIED CARD OF 'transputerlaw01.WordDivides'. -/
def wordDividesCard : Claim7 := { stood := { row := wordDividesRow, standIns := [], harness := (true, "29629d00d9b1485c14ffac5b4367c3ea845fb21d47ba4ee8bce84449878913e8"), looks := true }, kinds := [], alts := [], laidByText := true, laidKinds := [.data, .data, .data, .sentinel, .sentinel], laidTests := true, laidLooks := .later }
def WordDividesCardSaid : Prop := Claim7.holds Tryd.pinned (.plain (OpenSpec.ofChange wordDividesSpec)) wordDividesCard

/-- THE TIED CARD OF 'transputerlaw01.WordRound'. -/
def wordRoundCard : Claim7 := { stood := { row := wordRoundRow, standIns := [], harness := (true, "29629d00d9b1485c14ffac5b4367c3ea845fb21d47ba4ee8bce84449878913e8"), looks := true }, kinds := [], alts := [], laidByText := true, laidKinds := [.data, .data, .data, .sentinel, .sentinel], laidTests := true, laidLooks := .later }
def WordRoundCardSaid : Prop := Claim7.holds Tryd.pinned (.plain (OpenSpec.ofChange wordRoundSpec)) wordRoundCard

/-- THE TIED CARD OF 'transputerlaw01.WordParts'. -/
def wordPartsCard : Claim7 := { stood := { row := wordPartsRow, standIns := [], harness := (true, "29629d00d9b1485c14ffac5b4367c3ea845fb21d47ba4ee8bce84449878913e8"), looks := true }, kinds := [], alts := [], laidByText := true, laidKinds := [.data, .data, .data, .sentinel, .sentinel], laidTests := true, laidLooks := .later }
def WordPartsCardSaid : Prop := Claim7.holds Tryd.pinned (.plain (OpenSpec.ofChange wordPartsSpec)) wordPartsCard

/-- THE TIED CARD OF 'transputerlaw01.WordProducts'. -/
def wordProductsCard : Claim7 := { stood := { row := wordProductsRow, standIns := [], harness := (true, "29629d00d9b1485c14ffac5b4367c3ea845fb21d47ba4ee8bce84449878913e8"), looks := true }, kinds := [], alts := [], laidByText := true, laidKinds := [.data, .data, .data, .sentinel, .sentinel], laidTests := true, laidLooks := .later }
def WordProductsCardSaid : Prop := Claim7.holds Tryd.pinned (.plain (OpenSpec.ofChange wordProductsSpec)) wordProductsCard

/-- THE TIED CARD OF 'transputerlaw01.WordChecks'. -/
def wordChecksCard : Claim7 := { stood := { row := wordChecksRow, standIns := [], harness := (true, "29629d00d9b1485c14ffac5b4367c3ea845fb21d47ba4ee8bce84449878913e8"), looks := true }, kinds := [], alts := [], laidByText := true, laidKinds := [.data, .data, .data, .sentinel, .sentinel], laidTests := true, laidLooks := .later }
def WordChecksCardSaid : Prop := Claim7.holds Tryd.pinned (.plain (OpenSpec.ofChange wordChecksSpec)) wordChecksCard

/-- THE TIED CARD OF 'transputerlaw01.WordClock'. -/
def wordClockCard : Claim7 := { stood := { row := wordClockRow, standIns := [], harness := (true, "29629d00d9b1485c14ffac5b4367c3ea845fb21d47ba4ee8bce84449878913e8"), looks := true }, kinds := [], alts := [], laidByText := true, laidKinds := [.data, .data, .data, .sentinel, .sentinel], laidTests := true, laidLooks := .later }
def WordClockCardSaid : Prop := Claim7.holds Tryd.pinned (.plain (OpenSpec.ofChange wordClockSpec)) wordClockCard

/-- THE TIED CARD OF 'transputerlaw01.WordSums'. -/
def wordSumsCard : Claim7 := { stood := { row := wordSumsRow, standIns := [], harness := (true, "29629d00d9b1485c14ffac5b4367c3ea845fb21d47ba4ee8bce84449878913e8"), looks := true }, kinds := [], alts := [], laidByText := true, laidKinds := [.data, .data, .data, .sentinel, .sentinel], laidTests := true, laidLooks := .later }
def WordSumsCardSaid : Prop := Claim7.holds Tryd.pinned (.plain (OpenSpec.ofChange wordSumsSpec)) wordSumsCard

/-- THE TIED CARD OF 'transputerlaw01.WordKnown'. -/
def wordKnownCard : Claim7 := { stood := { row := wordKnownRow, standIns := [], harness := (true, "29629d00d9b1485c14ffac5b4367c3ea845fb21d47ba4ee8bce84449878913e8"), looks := true }, kinds := [], alts := [], laidByText := true, laidKinds := [.data, .data, .data, .sentinel, .sentinel], laidTests := true, laidLooks := .later }
def WordKnownCardSaid : Prop := Claim7.holds Tryd.pinned (.plain (OpenSpec.ofChange wordKnownSpec)) wordKnownCard

/-- THE SECOND FORM's CARD OF 'transputerlaw01.WordShifts'. -/
def wordShiftsUptoCard : Claim7 := { stood := { row := wordShiftsUptoRow, standIns := [], harness := (true, "29629d00d9b1485c14ffac5b4367c3ea845fb21d47ba4ee8bce84449878913e8"), looks := true }, kinds := [], alts := [], laidByText := true, laidKinds := [.data, .data, .data, .sentinel, .sentinel], laidTests := true, laidLooks := .later }
def WordShiftsUptoCardSaid : Prop := Claim7.holds Tryd.pinned (.plain (OpenSpec.upto wordShiftsSpec)) wordShiftsUptoCard

/-- THE SECOND FORM's CARD OF 'transputerlaw01.WordTexts'. -/
def wordTextsUptoCard : Claim7 := { stood := { row := wordTextsUptoRow, standIns := [], harness := (true, "29629d00d9b1485c14ffac5b4367c3ea845fb21d47ba4ee8bce84449878913e8"), looks := true }, kinds := [], alts := [], laidByText := true, laidKinds := [.data, .data, .data, .sentinel, .sentinel], laidTests := true, laidLooks := .later }
def WordTextsUptoCardSaid : Prop := Claim7.holds Tryd.pinned (.plain (OpenSpec.upto wordTextsSpec)) wordTextsUptoCard

/-- THE SECOND FORM's CARD OF 'transputerlaw01.WordDivides'. -/
def wordDividesUptoCard : Claim7 := { stood := { row := wordDividesUptoRow, standIns := [], harness := (true, "29629d00d9b1485c14ffac5b4367c3ea845fb21d47ba4ee8bce84449878913e8"), looks := true }, kinds := [], alts := [], laidByText := true, laidKinds := [.data, .data, .data, .sentinel, .sentinel], laidTests := true, laidLooks := .later }
def WordDividesUptoCardSaid : Prop := Claim7.holds Tryd.pinned (.plain (OpenSpec.upto wordDividesSpec)) wordDividesUptoCard

/-- THE SECOND FORM's CARD OF 'transputerlaw01.WordRound'. -/
def wordRoundUptoCard : Claim7 := { stood := { row := wordRoundUptoRow, standIns := [], harness := (true, "29629d00d9b1485c14ffac5b4367c3ea845fb21d47ba4ee8bce84449878913e8"), looks := true }, kinds := [], alts := [], laidByText := true, laidKinds := [.data, .data, .data, .sentinel, .sentinel], laidTests := true, laidLooks := .later }
def WordRoundUptoCardSaid : Prop := Claim7.holds Tryd.pinned (.plain (OpenSpec.upto wordRoundSpec)) wordRoundUptoCard

/-- THE SECOND FORM's CARD OF 'transputerlaw01.WordParts'. -/
def wordPartsUptoCard : Claim7 := { stood := { row := wordPartsUptoRow, standIns := [], harness := (true, "29629d00d9b1485c14ffac5b4367c3ea845fb21d47ba4ee8bce84449878913e8"), looks := true }, kinds := [], alts := [], laidByText := true, laidKinds := [.data, .data, .data, .sentinel, .sentinel], laidTests := true, laidLooks := .later }
def WordPartsUptoCardSaid : Prop := Claim7.holds Tryd.pinned (.plain (OpenSpec.upto wordPartsSpec)) wordPartsUptoCard

/-- THE SECOND FORM's CARD OF 'transputerlaw01.WordProducts'. -/
def wordProductsUptoCard : Claim7 := { stood := { row := wordProductsUptoRow, standIns := [], harness := (true, "29629d00d9b1485c14ffac5b4367c3ea845fb21d47ba4ee8bce84449878913e8"), looks := true }, kinds := [], alts := [], laidByText := true, laidKinds := [.data, .data, .data, .sentinel, .sentinel], laidTests := true, laidLooks := .later }
def WordProductsUptoCardSaid : Prop := Claim7.holds Tryd.pinned (.plain (OpenSpec.upto wordProductsSpec)) wordProductsUptoCard

/-- THE SECOND FORM's CARD OF 'transputerlaw01.WordChecks'. -/
def wordChecksUptoCard : Claim7 := { stood := { row := wordChecksUptoRow, standIns := [], harness := (true, "29629d00d9b1485c14ffac5b4367c3ea845fb21d47ba4ee8bce84449878913e8"), looks := true }, kinds := [], alts := [], laidByText := true, laidKinds := [.data, .data, .data, .sentinel, .sentinel], laidTests := true, laidLooks := .later }
def WordChecksUptoCardSaid : Prop := Claim7.holds Tryd.pinned (.plain (OpenSpec.upto wordChecksSpec)) wordChecksUptoCard

/-- THE SECOND FORM's CARD OF 'transputerlaw01.WordClock'. -/
def wordClockUptoCard : Claim7 := { stood := { row := wordClockUptoRow, standIns := [], harness := (true, "29629d00d9b1485c14ffac5b4367c3ea845fb21d47ba4ee8bce84449878913e8"), looks := true }, kinds := [], alts := [], laidByText := true, laidKinds := [.data, .data, .data, .sentinel, .sentinel], laidTests := true, laidLooks := .later }
def WordClockUptoCardSaid : Prop := Claim7.holds Tryd.pinned (.plain (OpenSpec.upto wordClockSpec)) wordClockUptoCard

/-- THE SECOND FORM's CARD OF 'transputerlaw01.WordSums'. -/
def wordSumsUptoCard : Claim7 := { stood := { row := wordSumsUptoRow, standIns := [], harness := (true, "29629d00d9b1485c14ffac5b4367c3ea845fb21d47ba4ee8bce84449878913e8"), looks := true }, kinds := [], alts := [], laidByText := true, laidKinds := [.data, .data, .data, .sentinel, .sentinel], laidTests := true, laidLooks := .later }
def WordSumsUptoCardSaid : Prop := Claim7.holds Tryd.pinned (.plain (OpenSpec.upto wordSumsSpec)) wordSumsUptoCard

/-- THE SECOND FORM's CARD OF 'transputerlaw01.WordKnown'. -/
def wordKnownUptoCard : Claim7 := { stood := { row := wordKnownUptoRow, standIns := [], harness := (true, "29629d00d9b1485c14ffac5b4367c3ea845fb21d47ba4ee8bce84449878913e8"), looks := true }, kinds := [], alts := [], laidByText := true, laidKinds := [.data, .data, .data, .sentinel, .sentinel], laidTests := true, laidLooks := .later }
def WordKnownUptoCardSaid : Prop := Claim7.holds Tryd.pinned (.plain (OpenSpec.upto wordKnownSpec)) wordKnownUptoCard
end Rows
end Go.Proofs.YtkmdigejohcnlaaDoor
