/-
  DERIVED. GIVEN WITH THE SEED: THE CARDS: each row of YtibflkphkjacnaaDoorRows.lean that lists a variable, with what it lists TIED to the program's text (the seventh form; the later family's looks); each row that meets fmt, with fmt's text TOLD by the authors' own Lean function (tested against real Go, not proved from fmt's source: count such statements apart). THE CARD IS WHAT COUNTS. Prove the row's statement (the work); the ties are given (YtibflkphkjacnaaDoorTie.lean); close each card by the builder's one call (the guide's Derived/Test/ToyasCard.lean, 'card_holds'). Laid BY PROGRAM, IN A SANDBOX (cutbox-door.mjs). By AI agents, Wed Nov 11 2026. No macro, syntax, notation, axiom, sorry.
-/
import Derived.Test.YtibflkphkjacnaaDoorRows
import GoSem.ClaimSeven
namespace Go.Proofs.YtibflkphkjacnaaDoor
namespace Rows

/-- THE TIED CARD OF 'transputerlaw05.InstrRows'. -/
def instrRowsCard : Claim7 := { stood := { row := instrRowsRow, standIns := [], harness := (true, "40417f7606a5ab7ad86e47e106a85aeee19deb6caef17889a213238af5294c1a"), looks := true }, kinds := [], alts := [], laidByText := true, laidKinds := [.data, .data, .data, .sentinel, .sentinel, .listed, .data, .data], laidTests := true, laidLooks := .later }
def InstrRowsCardSaid : Prop := Claim7.holds Tryd.pinned (.plain (OpenSpec.ofChange instrRowsSpec)) instrRowsCard

/-- THE TIED CARD OF 'transputerlaw05.InstrNamed'. -/
def instrNamedCard : Claim7 := { stood := { row := instrNamedRow, standIns := [], harness := (true, "40417f7606a5ab7ad86e47e106a85aeee19deb6caef17889a213238af5294c1a"), looks := true }, kinds := [], alts := [], laidByText := true, laidKinds := [.data, .data, .data, .sentinel, .sentinel, .listed, .data, .data], laidTests := true, laidLooks := .later }
def InstrNamedCardSaid : Prop := Claim7.holds Tryd.pinned (.plain (OpenSpec.ofChange instrNamedSpec)) instrNamedCard

/-- THE TIED CARD OF 'transputerlaw05.InstrRead'. -/
def instrReadCard : Claim7 := { stood := { row := instrReadRow, standIns := [], harness := (true, "40417f7606a5ab7ad86e47e106a85aeee19deb6caef17889a213238af5294c1a"), looks := true }, kinds := [], alts := [], laidByText := true, laidKinds := [.data, .data, .data, .sentinel, .sentinel, .listed, .data, .data], laidTests := true, laidLooks := .later }
def InstrReadCardSaid : Prop := Claim7.holds Tryd.pinned (.plain (OpenSpec.ofChange instrReadSpec)) instrReadCard

/-- THE TIED CARD OF 'transputerlaw05.InstrBack'. -/
def instrBackCard : Claim7 := { stood := { row := instrBackRow, standIns := [], harness := (true, "40417f7606a5ab7ad86e47e106a85aeee19deb6caef17889a213238af5294c1a"), looks := true }, kinds := [], alts := [], laidByText := true, laidKinds := [.data, .data, .data, .sentinel, .sentinel, .listed, .data, .data], laidTests := true, laidLooks := .later }
def InstrBackCardSaid : Prop := Claim7.holds Tryd.pinned (.plain (OpenSpec.ofChange instrBackSpec)) instrBackCard

/-- THE TIED CARD OF 'transputerlaw05.InstrCount'. -/
def instrCountCard : Claim7 := { stood := { row := instrCountRow, standIns := [], harness := (true, "40417f7606a5ab7ad86e47e106a85aeee19deb6caef17889a213238af5294c1a"), looks := true }, kinds := [], alts := [], laidByText := true, laidKinds := [.data, .data, .data, .sentinel, .sentinel, .listed, .data, .data], laidTests := true, laidLooks := .later }
def InstrCountCardSaid : Prop := Claim7.holds Tryd.pinned (.plain (OpenSpec.ofChange instrCountSpec)) instrCountCard

/-- THE TIED CARD OF 'transputerlaw05.InstrHex'. -/
def instrHexCard : Claim7 := { stood := { row := instrHexRow, standIns := [], harness := (true, "40417f7606a5ab7ad86e47e106a85aeee19deb6caef17889a213238af5294c1a"), looks := true }, kinds := [], alts := [], laidByText := true, laidKinds := [.data, .data, .data, .sentinel, .sentinel, .listed, .data, .data], laidTests := true, laidLooks := .later }
def InstrHexCardSaid : Prop := Claim7.holds Tryd.pinned (.plain (OpenSpec.ofChange instrHexSpec)) instrHexCard

/-- THE SECOND FORM's CARD OF 'transputerlaw05.InstrRows'. -/
def instrRowsUptoCard : Claim7 := { stood := { row := instrRowsUptoRow, standIns := [], harness := (true, "40417f7606a5ab7ad86e47e106a85aeee19deb6caef17889a213238af5294c1a"), looks := true }, kinds := [], alts := [], laidByText := true, laidKinds := [.data, .data, .data, .sentinel, .sentinel, .listed, .data, .data], laidTests := true, laidLooks := .later }
def InstrRowsUptoCardSaid : Prop := Claim7.holds Tryd.pinned (.plain (OpenSpec.upto instrRowsSpec)) instrRowsUptoCard

/-- THE SECOND FORM's CARD OF 'transputerlaw05.InstrNamed'. -/
def instrNamedUptoCard : Claim7 := { stood := { row := instrNamedUptoRow, standIns := [], harness := (true, "40417f7606a5ab7ad86e47e106a85aeee19deb6caef17889a213238af5294c1a"), looks := true }, kinds := [], alts := [], laidByText := true, laidKinds := [.data, .data, .data, .sentinel, .sentinel, .listed, .data, .data], laidTests := true, laidLooks := .later }
def InstrNamedUptoCardSaid : Prop := Claim7.holds Tryd.pinned (.plain (OpenSpec.upto instrNamedSpec)) instrNamedUptoCard

/-- THE SECOND FORM's CARD OF 'transputerlaw05.InstrRead'. -/
def instrReadUptoCard : Claim7 := { stood := { row := instrReadUptoRow, standIns := [], harness := (true, "40417f7606a5ab7ad86e47e106a85aeee19deb6caef17889a213238af5294c1a"), looks := true }, kinds := [], alts := [], laidByText := true, laidKinds := [.data, .data, .data, .sentinel, .sentinel, .listed, .data, .data], laidTests := true, laidLooks := .later }
def InstrReadUptoCardSaid : Prop := Claim7.holds Tryd.pinned (.plain (OpenSpec.upto instrReadSpec)) instrReadUptoCard

/-- THE SECOND FORM's CARD OF 'transputerlaw05.InstrBack'. -/
def instrBackUptoCard : Claim7 := { stood := { row := instrBackUptoRow, standIns := [], harness := (true, "40417f7606a5ab7ad86e47e106a85aeee19deb6caef17889a213238af5294c1a"), looks := true }, kinds := [], alts := [], laidByText := true, laidKinds := [.data, .data, .data, .sentinel, .sentinel, .listed, .data, .data], laidTests := true, laidLooks := .later }
def InstrBackUptoCardSaid : Prop := Claim7.holds Tryd.pinned (.plain (OpenSpec.upto instrBackSpec)) instrBackUptoCard

/-- THE SECOND FORM's CARD OF 'transputerlaw05.InstrCount'. -/
def instrCountUptoCard : Claim7 := { stood := { row := instrCountUptoRow, standIns := [], harness := (true, "40417f7606a5ab7ad86e47e106a85aeee19deb6caef17889a213238af5294c1a"), looks := true }, kinds := [], alts := [], laidByText := true, laidKinds := [.data, .data, .data, .sentinel, .sentinel, .listed, .data, .data], laidTests := true, laidLooks := .later }
def InstrCountUptoCardSaid : Prop := Claim7.holds Tryd.pinned (.plain (OpenSpec.upto instrCountSpec)) instrCountUptoCard

/-- THE SECOND FORM's CARD OF 'transputerlaw05.InstrHex'. -/
def instrHexUptoCard : Claim7 := { stood := { row := instrHexUptoRow, standIns := [], harness := (true, "40417f7606a5ab7ad86e47e106a85aeee19deb6caef17889a213238af5294c1a"), looks := true }, kinds := [], alts := [], laidByText := true, laidKinds := [.data, .data, .data, .sentinel, .sentinel, .listed, .data, .data], laidTests := true, laidLooks := .later }
def InstrHexUptoCardSaid : Prop := Claim7.holds Tryd.pinned (.plain (OpenSpec.upto instrHexSpec)) instrHexUptoCard
end Rows
end Go.Proofs.YtibflkphkjacnaaDoor
