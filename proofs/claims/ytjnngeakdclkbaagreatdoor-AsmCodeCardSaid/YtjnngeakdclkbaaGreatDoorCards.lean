/-
  DERIVED. GIVEN WITH THE SEED: THE CARDS: each row of YtjnngeakdclkbaaGreatDoorRows.lean that lists a variable, with what it lists TIED to the program's text (the seventh form; the later family's looks); each row that meets fmt, with fmt's text TOLD by the authors' own Lean function (tested against real Go, not proved from fmt's source: count such statements apart). THE CARD IS WHAT COUNTS. Prove the row's statement (the work); the ties are given (YtjnngeakdclkbaaGreatDoorTie.lean); close each card by the builder's one call (the guide's Derived/Test/ToyasCard.lean, 'card_holds'). Laid BY PROGRAM, IN A SANDBOX (cutbox-door.mjs). By AI agents, Wed Nov 11 2026. No macro, syntax, notation, axiom, sorry.
-/
import Derived.Test.YtjnngeakdclkbaaGreatDoorRows
import GoSem.ClaimSeven
namespace Go.Proofs.YtjnngeakdclkbaaGreatDoor
namespace Rows

/-- THE TIED CARD OF 'transputerlaw06.AsmLengths'. -/
def asmLengthsCard : Claim7 := { stood := { row := asmLengthsRow, standIns := [], harness := (true, "c7638e85382ad1245efc8d2124a5980f0bbb51e35341dfdb2d8a6f27a05b506e"), looks := true }, kinds := [], alts := [], laidByText := true, laidKinds := [.data, .data, .data, .sentinel, .sentinel, .listed, .data, .data], laidTests := true, laidLooks := .later }
def AsmLengthsCardSaid : Prop := Claim7.holds Tryz.pinned (.plain (OpenSpec.ofChange asmLengthsSpec)) asmLengthsCard

/-- THE TIED CARD OF 'transputerlaw06.AsmCode'. -/
def asmCodeCard : Claim7 := { stood := { row := asmCodeRow, standIns := [], harness := (true, "c7638e85382ad1245efc8d2124a5980f0bbb51e35341dfdb2d8a6f27a05b506e"), looks := true }, kinds := [], alts := [], laidByText := true, laidKinds := [.data, .data, .data, .sentinel, .sentinel, .listed, .data, .data], laidTests := true, laidLooks := .later }
def AsmCodeCardSaid : Prop := Claim7.holds Tryz.pinned (.plain (OpenSpec.ofChange asmCodeSpec)) asmCodeCard

/-- THE SECOND FORM's CARD OF 'transputerlaw06.AsmLengths'. -/
def asmLengthsUptoCard : Claim7 := { stood := { row := asmLengthsUptoRow, standIns := [], harness := (true, "c7638e85382ad1245efc8d2124a5980f0bbb51e35341dfdb2d8a6f27a05b506e"), looks := true }, kinds := [], alts := [], laidByText := true, laidKinds := [.data, .data, .data, .sentinel, .sentinel, .listed, .data, .data], laidTests := true, laidLooks := .later }
def AsmLengthsUptoCardSaid : Prop := Claim7.holds Tryz.pinned (.plain (OpenSpec.upto asmLengthsSpec)) asmLengthsUptoCard

/-- THE SECOND FORM's CARD OF 'transputerlaw06.AsmCode'. -/
def asmCodeUptoCard : Claim7 := { stood := { row := asmCodeUptoRow, standIns := [], harness := (true, "c7638e85382ad1245efc8d2124a5980f0bbb51e35341dfdb2d8a6f27a05b506e"), looks := true }, kinds := [], alts := [], laidByText := true, laidKinds := [.data, .data, .data, .sentinel, .sentinel, .listed, .data, .data], laidTests := true, laidLooks := .later }
def AsmCodeUptoCardSaid : Prop := Claim7.holds Tryz.pinned (.plain (OpenSpec.upto asmCodeSpec)) asmCodeUptoCard
end Rows
end Go.Proofs.YtjnngeakdclkbaaGreatDoor
