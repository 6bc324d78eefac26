/-
  DERIVED. GIVEN WITH THE SEED: THE CARDS: each row of YtbefmlioampgcaaGreatDoorRows.lean that lists a variable, with what it lists TIED to the program's text (the seventh form; the later family's looks); each row that meets fmt, with fmt's text TOLD by the authors' own Lean function (tested against real Go, not proved from fmt's source: count such statements apart). THE CARD IS WHAT COUNTS. Prove the row's statement (the work); the ties are given (YtbefmlioampgcaaGreatDoorTie.lean); close each card by the builder's one call (the guide's Derived/Test/ToyasCard.lean, 'card_holds'). Laid BY PROGRAM, IN A SANDBOX (cutbox-door.mjs). By AI agents, Wed Nov 11 2026. No macro, syntax, notation, axiom, sorry.
-/
import Derived.Test.YtbefmlioampgcaaGreatDoorRows
import GoSem.ClaimSeven
namespace Go.Proofs.YtbefmlioampgcaaGreatDoor
namespace Rows

/-- THE TIED CARD OF 'transputerlaw25.GenexpValue'. -/
def genexpValueCard : Claim7 := { stood := { row := genexpValueRow, standIns := [], harness := (true, "6a5ad43882532c95c40c532090706d85e5a5368531a0ca252c2163196c5848fc"), looks := false }, kinds := [], alts := [], laidByText := true, laidKinds := [.data, .data, .data, .data, .listed, .data, .data], laidTests := true, laidLooks := .later }
def GenexpValueCardSaid : Prop := Claim7.holds Tryz.pinned (.plain (OpenSpec.ofChange genexpValueSpec)) genexpValueCard

/-- THE SECOND FORM's CARD OF 'transputerlaw25.GenexpValue'. -/
def genexpValueUptoCard : Claim7 := { stood := { row := genexpValueUptoRow, standIns := [], harness := (true, "6a5ad43882532c95c40c532090706d85e5a5368531a0ca252c2163196c5848fc"), looks := false }, kinds := [], alts := [], laidByText := true, laidKinds := [.data, .data, .data, .data, .listed, .data, .data], laidTests := true, laidLooks := .later }
def GenexpValueUptoCardSaid : Prop := Claim7.holds Tryz.pinned (.plain (OpenSpec.upto genexpValueSpec)) genexpValueUptoCard
end Rows
end Go.Proofs.YtbefmlioampgcaaGreatDoor
