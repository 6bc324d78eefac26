/-
  DERIVED. GIVEN WITH THE SEED: THE CARDS: each row of YtaakhhnlmldegaaDoorRows.lean that lists a variable, with what it lists TIED to the program's text (the seventh form; the later family's looks); each row that meets fmt, with fmt's text TOLD by the authors' own Lean function (tested against real Go, not proved from fmt's source: count such statements apart). THE CARD IS WHAT COUNTS. Prove the row's statement (the work); the ties are given (YtaakhhnlmldegaaDoorTie.lean); close each card by the builder's one call (the guide's Derived/Test/ToyasCard.lean, 'card_holds'). Laid BY PROGRAM, IN A SANDBOX (cutbox-door.mjs). By AI agents, Wed Nov 11 2026. No macro, syntax, notation, axiom, sorry.
-/
import Derived.Test.YtaakhhnlmldegaaDoorRows
import GoSem.ClaimSeven
namespace Go.Proofs.YtaakhhnlmldegaaDoor
namespace Rows

/-- THE TIED CARD OF 'transputerlaw05.InstrNames'. -/
def instrNamesCard : Claim7 := { stood := { row := instrNamesRow, standIns := [], harness := (true, "63610beaee9de88a1678ea39e8194e13193b859d003fce2ff4449b4b8570f0ba"), looks := true }, kinds := [], alts := [], laidByText := true, laidKinds := [.data, .data, .data, .data, .sentinel, .sentinel, .listed, .data, .data, .pinned, .pinned], laidTests := true, laidLooks := .later }
def InstrNamesCardSaid : Prop := Claim7.holds Tryd.pinned (.plain (OpenSpec.ofChange instrNamesSpec)) instrNamesCard

/-- THE TIED CARD OF 'transputerlaw05.InstrWrong'. -/
def instrWrongCard : Claim7 := { stood := { row := instrWrongRow, standIns := [], harness := (true, "63610beaee9de88a1678ea39e8194e13193b859d003fce2ff4449b4b8570f0ba"), looks := true }, kinds := [], alts := [], laidByText := true, laidKinds := [.data, .data, .data, .data, .sentinel, .sentinel, .listed, .data, .data, .pinned, .pinned], laidTests := true, laidLooks := .later }
def InstrWrongCardSaid : Prop := Claim7.holds Tryd.pinned (.plain (OpenSpec.ofChange instrWrongSpec)) instrWrongCard

/-- THE SECOND FORM's CARD OF 'transputerlaw05.InstrNames'. -/
def instrNamesUptoCard : Claim7 := { stood := { row := instrNamesUptoRow, standIns := [], harness := (true, "63610beaee9de88a1678ea39e8194e13193b859d003fce2ff4449b4b8570f0ba"), looks := true }, kinds := [], alts := [], laidByText := true, laidKinds := [.data, .data, .data, .data, .sentinel, .sentinel, .listed, .data, .data, .pinned, .pinned], laidTests := true, laidLooks := .later }
def InstrNamesUptoCardSaid : Prop := Claim7.holds Tryd.pinned (.plain (OpenSpec.upto instrNamesSpec)) instrNamesUptoCard

/-- THE SECOND FORM's CARD OF 'transputerlaw05.InstrWrong'. -/
def instrWrongUptoCard : Claim7 := { stood := { row := instrWrongUptoRow, standIns := [], harness := (true, "63610beaee9de88a1678ea39e8194e13193b859d003fce2ff4449b4b8570f0ba"), looks := true }, kinds := [], alts := [], laidByText := true, laidKinds := [.data, .data, .data, .data, .sentinel, .sentinel, .listed, .data, .data, .pinned, .pinned], laidTests := true, laidLooks := .later }
def InstrWrongUptoCardSaid : Prop := Claim7.holds Tryd.pinned (.plain (OpenSpec.upto instrWrongSpec)) instrWrongUptoCard
end Rows
end Go.Proofs.YtaakhhnlmldegaaDoor
