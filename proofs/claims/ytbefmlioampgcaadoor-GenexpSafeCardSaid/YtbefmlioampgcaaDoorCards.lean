/-
  DERIVED. GIVEN WITH THE SEED: THE CARDS: each row of YtbefmlioampgcaaDoorRows.lean that lists a variable, with what it lists TIED to the program's text (the seventh form; the later family's looks); each row that meets fmt, with fmt's text TOLD by the authors' own Lean function (tested against real Go, not proved from fmt's source: count such statements apart). THE CARD IS WHAT COUNTS. Prove the row's statement (the work); the ties are given (YtbefmlioampgcaaDoorTie.lean); close each card by the builder's one call (the guide's Derived/Test/ToyasCard.lean, 'card_holds'). Laid BY PROGRAM, IN A SANDBOX (cutbox-door.mjs). By AI agents, Wed Nov 11 2026. No macro, syntax, notation, axiom, sorry.
-/
import Derived.Test.YtbefmlioampgcaaDoorRows
import GoSem.ClaimSeven
namespace Go.Proofs.YtbefmlioampgcaaDoor
namespace Rows

/-- THE TIED CARD OF 'transputerlaw25.GenexpRuns'. -/
def genexpRunsCard : Claim7 := { stood := { row := genexpRunsRow, standIns := [], harness := (true, "cff7af2e6f236217f16d482ff781a43058c013dc8c51d2b164e660c99d90f9ad"), looks := false }, kinds := [], alts := [], laidByText := true, laidKinds := [.data, .data, .data, .data, .listed, .data, .data], laidTests := true, laidLooks := .later }
def GenexpRunsCardSaid : Prop := Claim7.holds Tryd.pinned (.plain (OpenSpec.ofChange genexpRunsSpec)) genexpRunsCard

/-- THE TIED CARD OF 'transputerlaw25.GenexpSafe'. -/
def genexpSafeCard : Claim7 := { stood := { row := genexpSafeRow, standIns := [], harness := (true, "cff7af2e6f236217f16d482ff781a43058c013dc8c51d2b164e660c99d90f9ad"), looks := false }, kinds := [], alts := [], laidByText := true, laidKinds := [.data, .data, .data, .data, .listed, .data, .data], laidTests := true, laidLooks := .later }
def GenexpSafeCardSaid : Prop := Claim7.holds Tryd.pinned (.plain (OpenSpec.ofChange genexpSafeSpec)) genexpSafeCard

/-- THE TIED CARD OF 'transputerlaw25.GenexpTemps'. -/
def genexpTempsCard : Claim7 := { stood := { row := genexpTempsRow, standIns := [], harness := (true, "cff7af2e6f236217f16d482ff781a43058c013dc8c51d2b164e660c99d90f9ad"), looks := false }, kinds := [], alts := [], laidByText := true, laidKinds := [.data, .data, .data, .data, .listed, .data, .data], laidTests := true, laidLooks := .later }
def GenexpTempsCardSaid : Prop := Claim7.holds Tryd.pinned (.plain (OpenSpec.ofChange genexpTempsSpec)) genexpTempsCard

/-- THE TIED CARD OF 'transputerlaw25.GenexpRegisters'. -/
def genexpRegistersCard : Claim7 := { stood := { row := genexpRegistersRow, standIns := [], harness := (true, "cff7af2e6f236217f16d482ff781a43058c013dc8c51d2b164e660c99d90f9ad"), looks := false }, kinds := [], alts := [], laidByText := true, laidKinds := [.data, .data, .data, .data, .listed, .data, .data], laidTests := true, laidLooks := .later }
def GenexpRegistersCardSaid : Prop := Claim7.holds Tryd.pinned (.plain (OpenSpec.ofChange genexpRegistersSpec)) genexpRegistersCard

/-- THE SECOND FORM's CARD OF 'transputerlaw25.GenexpRuns'. -/
def genexpRunsUptoCard : Claim7 := { stood := { row := genexpRunsUptoRow, standIns := [], harness := (true, "cff7af2e6f236217f16d482ff781a43058c013dc8c51d2b164e660c99d90f9ad"), looks := false }, kinds := [], alts := [], laidByText := true, laidKinds := [.data, .data, .data, .data, .listed, .data, .data], laidTests := true, laidLooks := .later }
def GenexpRunsUptoCardSaid : Prop := Claim7.holds Tryd.pinned (.plain (OpenSpec.upto genexpRunsSpec)) genexpRunsUptoCard

/-- THE SECOND FORM's CARD OF 'transputerlaw25.GenexpSafe'. -/
def genexpSafeUptoCard : Claim7 := { stood := { row := genexpSafeUptoRow, standIns := [], harness := (true, "cff7af2e6f236217f16d482ff781a43058c013dc8c51d2b164e660c99d90f9ad"), looks := false }, kinds := [], alts := [], laidByText := true, laidKinds := [.data, .data, .data, .data, .listed, .data, .data], laidTests := true, laidLooks := .later }
def GenexpSafeUptoCardSaid : Prop := Claim7.holds Tryd.pinned (.plain (OpenSpec.upto genexpSafeSpec)) genexpSafeUptoCard

/-- THE SECOND FORM's CARD OF 'transputerlaw25.GenexpTemps'. -/
def genexpTempsUptoCard : Claim7 := { stood := { row := genexpTempsUptoRow, standIns := [], harness := (true, "cff7af2e6f236217f16d482ff781a43058c013dc8c51d2b164e660c99d90f9ad"), looks := false }, kinds := [], alts := [], laidByText := true, laidKinds := [.data, .data, .data, .data, .listed, .data, .data], laidTests := true, laidLooks := .later }
def GenexpTempsUptoCardSaid : Prop := Claim7.holds Tryd.pinned (.plain (OpenSpec.upto genexpTempsSpec)) genexpTempsUptoCard

/-- THE SECOND FORM's CARD OF 'transputerlaw25.GenexpRegisters'. -/
def genexpRegistersUptoCard : Claim7 := { stood := { row := genexpRegistersUptoRow, standIns := [], harness := (true, "cff7af2e6f236217f16d482ff781a43058c013dc8c51d2b164e660c99d90f9ad"), looks := false }, kinds := [], alts := [], laidByText := true, laidKinds := [.data, .data, .data, .data, .listed, .data, .data], laidTests := true, laidLooks := .later }
def GenexpRegistersUptoCardSaid : Prop := Claim7.holds Tryd.pinned (.plain (OpenSpec.upto genexpRegistersSpec)) genexpRegistersUptoCard
end Rows
end Go.Proofs.YtbefmlioampgcaaDoor
