/-
  DERIVED. GIVEN WITH THE SEED: THE CARDS: each row of YtjndhfcfcedheaaGreatDoorRows.lean that lists a variable, with what it lists TIED to the program's text (the seventh form; the later family's looks); each row that meets fmt, with fmt's text TOLD by the authors' own Lean function (tested against real Go, not proved from fmt's source: count such statements apart). THE CARD IS WHAT COUNTS. Prove the row's statement (the work); the ties are given (YtjndhfcfcedheaaGreatDoorTie.lean); close each card by the builder's one call (the guide's Derived/Test/ToyasCard.lean, 'card_holds'). Laid BY PROGRAM, IN A SANDBOX (cutbox-door.mjs). By AI agents, Wed Nov 11 2026. No macro, syntax, notation, axiom, sorry.
-/
import Derived.Test.YtjndhfcfcedheaaGreatDoorRows
import GoSem.ClaimSeven
namespace Go.Proofs.YtjndhfcfcedheaaGreatDoor
namespace Rows

/-- THE TIED CARD OF 'transputerlaw24.SpaceMakes'. -/
def spaceMakesCard : Claim7 := { stood := { row := spaceMakesRow, standIns := [], harness := (true, "099a7bfa459cfd400c1a68259f3736adc799b704bdf65344594cba1324f0d483"), looks := false }, kinds := [], alts := [], laidByText := true, laidKinds := [.data], laidTests := true, laidLooks := .later }
def SpaceMakesCardSaid : Prop := Claim7.holds Tryz.pinned (.plain (OpenSpec.ofChange spaceMakesSpec)) spaceMakesCard

/-- THE TIED CARD OF 'transputerlaw24.SpaceFinds'. -/
def spaceFindsCard : Claim7 := { stood := { row := spaceFindsRow, standIns := [], harness := (true, "099a7bfa459cfd400c1a68259f3736adc799b704bdf65344594cba1324f0d483"), looks := false }, kinds := [], alts := [], laidByText := true, laidKinds := [.data], laidTests := true, laidLooks := .later }
def SpaceFindsCardSaid : Prop := Claim7.holds Tryz.pinned (.plain (OpenSpec.ofChange spaceFindsSpec)) spaceFindsCard

/-- THE SECOND FORM's CARD OF 'transputerlaw24.SpaceMakes'. -/
def spaceMakesUptoCard : Claim7 := { stood := { row := spaceMakesUptoRow, standIns := [], harness := (true, "099a7bfa459cfd400c1a68259f3736adc799b704bdf65344594cba1324f0d483"), looks := false }, kinds := [], alts := [], laidByText := true, laidKinds := [.data], laidTests := true, laidLooks := .later }
def SpaceMakesUptoCardSaid : Prop := Claim7.holds Tryz.pinned (.plain (OpenSpec.upto spaceMakesSpec)) spaceMakesUptoCard

/-- THE SECOND FORM's CARD OF 'transputerlaw24.SpaceFinds'. -/
def spaceFindsUptoCard : Claim7 := { stood := { row := spaceFindsUptoRow, standIns := [], harness := (true, "099a7bfa459cfd400c1a68259f3736adc799b704bdf65344594cba1324f0d483"), looks := false }, kinds := [], alts := [], laidByText := true, laidKinds := [.data], laidTests := true, laidLooks := .later }
def SpaceFindsUptoCardSaid : Prop := Claim7.holds Tryz.pinned (.plain (OpenSpec.upto spaceFindsSpec)) spaceFindsUptoCard
end Rows
end Go.Proofs.YtjndhfcfcedheaaGreatDoor
