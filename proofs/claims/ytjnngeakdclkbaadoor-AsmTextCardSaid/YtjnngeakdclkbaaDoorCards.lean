/-
  DERIVED. GIVEN WITH THE SEED: THE CARDS: each row of YtjnngeakdclkbaaDoorRows.lean that lists a variable, with what it lists TIED to the program's text (the seventh form; the later family's looks); each row that meets fmt, with fmt's text TOLD by the authors' own Lean function (tested against real Go, not proved from fmt's source: count such statements apart). THE CARD IS WHAT COUNTS. Prove the row's statement (the work); the ties are given (YtjnngeakdclkbaaDoorTie.lean); close each card by the builder's one call (the guide's Derived/Test/ToyasCard.lean, 'card_holds'). Laid BY PROGRAM, IN A SANDBOX (cutbox-door.mjs). By AI agents, Wed Nov 11 2026. No macro, syntax, notation, axiom, sorry.
-/
import Derived.Test.YtjnngeakdclkbaaDoorRows
import GoSem.ClaimSeven
namespace Go.Proofs.YtjnngeakdclkbaaDoor
namespace Rows

/-- THE TIED CARD OF 'transputerlaw06.AsmText'. -/
def asmTextCard : Claim7 := { stood := { row := asmTextRow, standIns := [], harness := (true, "b7f88ce539cf47bcbf962abce2a50450e4efac28d2761b67e14a5dcf79bc5eb2"), looks := true }, kinds := [], alts := [], laidByText := true, laidKinds := [.data, .data, .data, .sentinel, .sentinel, .listed, .data, .data], laidTests := true, laidLooks := .later }
def AsmTextCardSaid : Prop := Claim7.holds Tryd.pinned (.plain (OpenSpec.ofChange asmTextSpec)) asmTextCard

/-- THE TIED CARD OF 'transputerlaw06.AsmRead'. -/
def asmReadCard : Claim7 := { stood := { row := asmReadRow, standIns := [], harness := (true, "b7f88ce539cf47bcbf962abce2a50450e4efac28d2761b67e14a5dcf79bc5eb2"), looks := true }, kinds := [], alts := [], laidByText := true, laidKinds := [.data, .data, .data, .sentinel, .sentinel, .listed, .data, .data], laidTests := true, laidLooks := .later }
def AsmReadCardSaid : Prop := Claim7.holds Tryd.pinned (.plain (OpenSpec.ofChange asmReadSpec)) asmReadCard

/-- THE TIED CARD OF 'transputerlaw06.AsmLeast'. -/
def asmLeastCard : Claim7 := { stood := { row := asmLeastRow, standIns := [], harness := (true, "b7f88ce539cf47bcbf962abce2a50450e4efac28d2761b67e14a5dcf79bc5eb2"), looks := true }, kinds := [], alts := [], laidByText := true, laidKinds := [.data, .data, .data, .sentinel, .sentinel, .listed, .data, .data], laidTests := true, laidLooks := .later }
def AsmLeastCardSaid : Prop := Claim7.holds Tryd.pinned (.plain (OpenSpec.ofChange asmLeastSpec)) asmLeastCard

/-- THE TIED CARD OF 'transputerlaw06.AsmNumbers'. -/
def asmNumbersCard : Claim7 := { stood := { row := asmNumbersRow, standIns := [], harness := (true, "b7f88ce539cf47bcbf962abce2a50450e4efac28d2761b67e14a5dcf79bc5eb2"), looks := true }, kinds := [], alts := [], laidByText := true, laidKinds := [.data, .data, .data, .sentinel, .sentinel, .listed, .data, .data], laidTests := true, laidLooks := .later }
def AsmNumbersCardSaid : Prop := Claim7.holds Tryd.pinned (.plain (OpenSpec.ofChange asmNumbersSpec)) asmNumbersCard

/-- THE TIED CARD OF 'transputerlaw06.AsmNames'. -/
def asmNamesCard : Claim7 := { stood := { row := asmNamesRow, standIns := [], harness := (true, "b7f88ce539cf47bcbf962abce2a50450e4efac28d2761b67e14a5dcf79bc5eb2"), looks := true }, kinds := [], alts := [], laidByText := true, laidKinds := [.data, .data, .data, .sentinel, .sentinel, .listed, .data, .data], laidTests := true, laidLooks := .later }
def AsmNamesCardSaid : Prop := Claim7.holds Tryd.pinned (.plain (OpenSpec.ofChange asmNamesSpec)) asmNamesCard

/-- THE TIED CARD OF 'transputerlaw06.AsmJumps'. -/
def asmJumpsCard : Claim7 := { stood := { row := asmJumpsRow, standIns := [], harness := (true, "b7f88ce539cf47bcbf962abce2a50450e4efac28d2761b67e14a5dcf79bc5eb2"), looks := true }, kinds := [], alts := [], laidByText := true, laidKinds := [.data, .data, .data, .sentinel, .sentinel, .listed, .data, .data], laidTests := true, laidLooks := .later }
def AsmJumpsCardSaid : Prop := Claim7.holds Tryd.pinned (.plain (OpenSpec.ofChange asmJumpsSpec)) asmJumpsCard

/-- THE SECOND FORM's CARD OF 'transputerlaw06.AsmText'. -/
def asmTextUptoCard : Claim7 := { stood := { row := asmTextUptoRow, standIns := [], harness := (true, "b7f88ce539cf47bcbf962abce2a50450e4efac28d2761b67e14a5dcf79bc5eb2"), looks := true }, kinds := [], alts := [], laidByText := true, laidKinds := [.data, .data, .data, .sentinel, .sentinel, .listed, .data, .data], laidTests := true, laidLooks := .later }
def AsmTextUptoCardSaid : Prop := Claim7.holds Tryd.pinned (.plain (OpenSpec.upto asmTextSpec)) asmTextUptoCard

/-- THE SECOND FORM's CARD OF 'transputerlaw06.AsmRead'. -/
def asmReadUptoCard : Claim7 := { stood := { row := asmReadUptoRow, standIns := [], harness := (true, "b7f88ce539cf47bcbf962abce2a50450e4efac28d2761b67e14a5dcf79bc5eb2"), looks := true }, kinds := [], alts := [], laidByText := true, laidKinds := [.data, .data, .data, .sentinel, .sentinel, .listed, .data, .data], laidTests := true, laidLooks := .later }
def AsmReadUptoCardSaid : Prop := Claim7.holds Tryd.pinned (.plain (OpenSpec.upto asmReadSpec)) asmReadUptoCard

/-- THE SECOND FORM's CARD OF 'transputerlaw06.AsmLeast'. -/
def asmLeastUptoCard : Claim7 := { stood := { row := asmLeastUptoRow, standIns := [], harness := (true, "b7f88ce539cf47bcbf962abce2a50450e4efac28d2761b67e14a5dcf79bc5eb2"), looks := true }, kinds := [], alts := [], laidByText := true, laidKinds := [.data, .data, .data, .sentinel, .sentinel, .listed, .data, .data], laidTests := true, laidLooks := .later }
def AsmLeastUptoCardSaid : Prop := Claim7.holds Tryd.pinned (.plain (OpenSpec.upto asmLeastSpec)) asmLeastUptoCard

/-- THE SECOND FORM's CARD OF 'transputerlaw06.AsmNumbers'. -/
def asmNumbersUptoCard : Claim7 := { stood := { row := asmNumbersUptoRow, standIns := [], harness := (true, "b7f88ce539cf47bcbf962abce2a50450e4efac28d2761b67e14a5dcf79bc5eb2"), looks := true }, kinds := [], alts := [], laidByText := true, laidKinds := [.data, .data, .data, .sentinel, .sentinel, .listed, .data, .data], laidTests := true, laidLooks := .later }
def AsmNumbersUptoCardSaid : Prop := Claim7.holds Tryd.pinned (.plain (OpenSpec.upto asmNumbersSpec)) asmNumbersUptoCard

/-- THE SECOND FORM's CARD OF 'transputerlaw06.AsmNames'. -/
def asmNamesUptoCard : Claim7 := { stood := { row := asmNamesUptoRow, standIns := [], harness := (true, "b7f88ce539cf47bcbf962abce2a50450e4efac28d2761b67e14a5dcf79bc5eb2"), looks := true }, kinds := [], alts := [], laidByText := true, laidKinds := [.data, .data, .data, .sentinel, .sentinel, .listed, .data, .data], laidTests := true, laidLooks := .later }
def AsmNamesUptoCardSaid : Prop := Claim7.holds Tryd.pinned (.plain (OpenSpec.upto asmNamesSpec)) asmNamesUptoCard

/-- THE SECOND FORM's CARD OF 'transputerlaw06.AsmJumps'. -/
def asmJumpsUptoCard : Claim7 := { stood := { row := asmJumpsUptoRow, standIns := [], harness := (true, "b7f88ce539cf47bcbf962abce2a50450e4efac28d2761b67e14a5dcf79bc5eb2"), looks := true }, kinds := [], alts := [], laidByText := true, laidKinds := [.data, .data, .data, .sentinel, .sentinel, .listed, .data, .data], laidTests := true, laidLooks := .later }
def AsmJumpsUptoCardSaid : Prop := Claim7.holds Tryd.pinned (.plain (OpenSpec.upto asmJumpsSpec)) asmJumpsUptoCard
end Rows
end Go.Proofs.YtjnngeakdclkbaaDoor
