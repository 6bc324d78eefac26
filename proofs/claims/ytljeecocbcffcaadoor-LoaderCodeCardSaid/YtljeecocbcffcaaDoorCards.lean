/-
  DERIVED. GIVEN WITH THE SEED: THE CARDS: each row of YtljeecocbcffcaaDoorRows.lean that lists a variable, with what it lists TIED to the program's text (the seventh form; the later family's looks); each row that meets fmt, with fmt's text TOLD by the authors' own Lean function (tested against real Go, not proved from fmt's source: count such statements apart). THE CARD IS WHAT COUNTS. Prove the row's statement (the work); the ties are given (YtljeecocbcffcaaDoorTie.lean); close each card by the builder's one call (the guide's Derived/Test/ToyasCard.lean, 'card_holds'). Laid BY PROGRAM, IN A SANDBOX (cutbox-door.mjs). By AI agents, Wed Nov 11 2026. No macro, syntax, notation, axiom, sorry.
-/
import Derived.Test.YtljeecocbcffcaaDoorRows
import GoSem.ClaimSeven
namespace Go.Proofs.YtljeecocbcffcaaDoor
namespace Rows

/-- THE TIED CARD OF 'transputerlaw38.LoaderCode'. -/
def loaderCodeCard : Claim7 := { stood := { row := loaderCodeRow, standIns := [], harness := (true, "cac1df33a557e0b15724f32844fb32f58f2b05d583f9e4dad761783422297fba"), looks := true }, kinds := [], alts := [], laidByText := true, laidKinds := [.listed, .data, .data], laidTests := true, laidLooks := .later }
def LoaderCodeCardSaid : Prop := Claim7.holds Tryd.pinned (.plain (OpenSpec.ofChange loaderCodeSpec)) loaderCodeCard

/-- THE TIED CARD OF 'transputerlaw38.LoaderPut'. -/
def loaderPutCard : Claim7 := { stood := { row := loaderPutRow, standIns := [], harness := (true, "cac1df33a557e0b15724f32844fb32f58f2b05d583f9e4dad761783422297fba"), looks := true }, kinds := [], alts := [], laidByText := true, laidKinds := [.listed, .data, .data], laidTests := true, laidLooks := .later }
def LoaderPutCardSaid : Prop := Claim7.holds Tryd.pinned (.plain (OpenSpec.ofChange loaderPutSpec)) loaderPutCard

/-- THE TIED CARD OF 'transputerlaw38.LoaderGet'. -/
def loaderGetCard : Claim7 := { stood := { row := loaderGetRow, standIns := [], harness := (true, "cac1df33a557e0b15724f32844fb32f58f2b05d583f9e4dad761783422297fba"), looks := true }, kinds := [], alts := [], laidByText := true, laidKinds := [.listed, .data, .data], laidTests := true, laidLooks := .later }
def LoaderGetCardSaid : Prop := Claim7.holds Tryd.pinned (.plain (OpenSpec.ofChange loaderGetSpec)) loaderGetCard

/-- THE TIED CARD OF 'transputerlaw38.LoaderBack'. -/
def loaderBackCard : Claim7 := { stood := { row := loaderBackRow, standIns := [], harness := (true, "cac1df33a557e0b15724f32844fb32f58f2b05d583f9e4dad761783422297fba"), looks := true }, kinds := [], alts := [], laidByText := true, laidKinds := [.listed, .data, .data], laidTests := true, laidLooks := .later }
def LoaderBackCardSaid : Prop := Claim7.holds Tryd.pinned (.plain (OpenSpec.ofChange loaderBackSpec)) loaderBackCard

/-- THE TIED CARD OF 'transputerlaw38.LoaderAgain'. -/
def loaderAgainCard : Claim7 := { stood := { row := loaderAgainRow, standIns := [], harness := (true, "cac1df33a557e0b15724f32844fb32f58f2b05d583f9e4dad761783422297fba"), looks := true }, kinds := [], alts := [], laidByText := true, laidKinds := [.listed, .data, .data], laidTests := true, laidLooks := .later }
def LoaderAgainCardSaid : Prop := Claim7.holds Tryd.pinned (.plain (OpenSpec.ofChange loaderAgainSpec)) loaderAgainCard

/-- THE TIED CARD OF 'transputerlaw06.AsmRead'. -/
def asmReadCard : Claim7 := { stood := { row := asmReadRow, standIns := [], harness := (true, "cac1df33a557e0b15724f32844fb32f58f2b05d583f9e4dad761783422297fba"), looks := true }, kinds := [], alts := [], laidByText := true, laidKinds := [.data, .data, .data, .sentinel, .sentinel, .listed, .data, .data], laidTests := true, laidLooks := .later }
def AsmReadCardSaid : Prop := Claim7.holds Tryd.pinned (.plain (OpenSpec.ofChange asmReadSpec)) asmReadCard

/-- THE TIED CARD OF 'transputerlaw06.AsmJumps'. -/
def asmJumpsCard : Claim7 := { stood := { row := asmJumpsRow, standIns := [], harness := (true, "cac1df33a557e0b15724f32844fb32f58f2b05d583f9e4dad761783422297fba"), looks := true }, kinds := [], alts := [], laidByText := true, laidKinds := [.data, .data, .data, .sentinel, .sentinel, .listed, .data, .data], laidTests := true, laidLooks := .later }
def AsmJumpsCardSaid : Prop := Claim7.holds Tryd.pinned (.plain (OpenSpec.ofChange asmJumpsSpec)) asmJumpsCard

/-- THE SECOND FORM's CARD OF 'transputerlaw38.LoaderCode'. -/
def loaderCodeUptoCard : Claim7 := { stood := { row := loaderCodeUptoRow, standIns := [], harness := (true, "cac1df33a557e0b15724f32844fb32f58f2b05d583f9e4dad761783422297fba"), looks := true }, kinds := [], alts := [], laidByText := true, laidKinds := [.listed, .data, .data], laidTests := true, laidLooks := .later }
def LoaderCodeUptoCardSaid : Prop := Claim7.holds Tryd.pinned (.plain (OpenSpec.upto loaderCodeSpec)) loaderCodeUptoCard

/-- THE SECOND FORM's CARD OF 'transputerlaw38.LoaderPut'. -/
def loaderPutUptoCard : Claim7 := { stood := { row := loaderPutUptoRow, standIns := [], harness := (true, "cac1df33a557e0b15724f32844fb32f58f2b05d583f9e4dad761783422297fba"), looks := true }, kinds := [], alts := [], laidByText := true, laidKinds := [.listed, .data, .data], laidTests := true, laidLooks := .later }
def LoaderPutUptoCardSaid : Prop := Claim7.holds Tryd.pinned (.plain (OpenSpec.upto loaderPutSpec)) loaderPutUptoCard

/-- THE SECOND FORM's CARD OF 'transputerlaw38.LoaderGet'. -/
def loaderGetUptoCard : Claim7 := { stood := { row := loaderGetUptoRow, standIns := [], harness := (true, "cac1df33a557e0b15724f32844fb32f58f2b05d583f9e4dad761783422297fba"), looks := true }, kinds := [], alts := [], laidByText := true, laidKinds := [.listed, .data, .data], laidTests := true, laidLooks := .later }
def LoaderGetUptoCardSaid : Prop := Claim7.holds Tryd.pinned (.plain (OpenSpec.upto loaderGetSpec)) loaderGetUptoCard

/-- THE SECOND FORM's CARD OF 'transputerlaw38.LoaderBack'. -/
def loaderBackUptoCard : Claim7 := { stood := { row := loaderBackUptoRow, standIns := [], harness := (true, "cac1df33a557e0b15724f32844fb32f58f2b05d583f9e4dad761783422297fba"), looks := true }, kinds := [], alts := [], laidByText := true, laidKinds := [.listed, .data, .data], laidTests := true, laidLooks := .later }
def LoaderBackUptoCardSaid : Prop := Claim7.holds Tryd.pinned (.plain (OpenSpec.upto loaderBackSpec)) loaderBackUptoCard

/-- THE SECOND FORM's CARD OF 'transputerlaw38.LoaderAgain'. -/
def loaderAgainUptoCard : Claim7 := { stood := { row := loaderAgainUptoRow, standIns := [], harness := (true, "cac1df33a557e0b15724f32844fb32f58f2b05d583f9e4dad761783422297fba"), looks := true }, kinds := [], alts := [], laidByText := true, laidKinds := [.listed, .data, .data], laidTests := true, laidLooks := .later }
def LoaderAgainUptoCardSaid : Prop := Claim7.holds Tryd.pinned (.plain (OpenSpec.upto loaderAgainSpec)) loaderAgainUptoCard

/-- THE SECOND FORM's CARD OF 'transputerlaw06.AsmRead'. -/
def asmReadUptoCard : Claim7 := { stood := { row := asmReadUptoRow, standIns := [], harness := (true, "cac1df33a557e0b15724f32844fb32f58f2b05d583f9e4dad761783422297fba"), looks := true }, kinds := [], alts := [], laidByText := true, laidKinds := [.data, .data, .data, .sentinel, .sentinel, .listed, .data, .data], laidTests := true, laidLooks := .later }
def AsmReadUptoCardSaid : Prop := Claim7.holds Tryd.pinned (.plain (OpenSpec.upto asmReadSpec)) asmReadUptoCard

/-- THE SECOND FORM's CARD OF 'transputerlaw06.AsmJumps'. -/
def asmJumpsUptoCard : Claim7 := { stood := { row := asmJumpsUptoRow, standIns := [], harness := (true, "cac1df33a557e0b15724f32844fb32f58f2b05d583f9e4dad761783422297fba"), looks := true }, kinds := [], alts := [], laidByText := true, laidKinds := [.data, .data, .data, .sentinel, .sentinel, .listed, .data, .data], laidTests := true, laidLooks := .later }
def AsmJumpsUptoCardSaid : Prop := Claim7.holds Tryd.pinned (.plain (OpenSpec.upto asmJumpsSpec)) asmJumpsUptoCard
end Rows
end Go.Proofs.YtljeecocbcffcaaDoor
