/-
  NARROWER THAN 'FOR EVERY INPUT', by the rows' own cells (each row's printed sentence says how): SpaceMakes: loops, laid · SpaceFinds: loops, laid.
  DERIVED. THE GIVEN ROWS OF THIS SEAT. 2 by the template 'for every input the law returns true; each argument reads behind the call as it read before'; 0 by the template 'total and deterministic' (their statements: YtjndhfcfcedheaaGreatDoorTotals.lean).
  GIVEN WITH THE SEED: the statements are not yours to turn. If you find one false, say at which input.
  Laid BY PROGRAM, IN A SANDBOX (cutbox-rows.mjs): the forced cells as the released guide's own fill.sh prints them over the translation 2a3b460ee24ce038… (all of the seat's roots in one cut). By AI agents, Wed Nov 11 2026. No macro, syntax, notation, axiom, sorry.
-/
import Derived.Test.YtjndhfcfcedheaaGreatDoorChecked
import GoSem.Claim
import GoSem.ClaimJoined
import GoSem.ClaimMapViews
import Derived.JoinedTies
import Derived.KernelRfl
namespace Go.Proofs.YtjndhfcfcedheaaGreatDoor
/- THE CELL 'sum', in the pinned program and in every row, IS THE sha256 OF THE DUMP (.gsa) THAT YtjndhfcfcedheaaGreatDoorProg.lean LOADS. Nothing in Lean hashes anything: it is a label: what it is worth is what the hold of that sum in a sandbox is worth. -/
noncomputable def Tryz.pinned : Pinned := { name := "ytjndhfcfcedheaagreatdoor", sum := "2a3b460ee24ce038cacac36803935ab69876e112a8a01b8c9496b37031805470", checked := Tryz.checked }
namespace Rows
def none {H : Type} : Left H := { results := [], args := [] }

/- WHAT THE LISTED PACKAGE-LEVEL VARIABLES READ AS WHEN THE CALL BEGINS. Each datum BY PROGRAM (the guide's laid-datum.mjs) off the statement by which the dump's own 'gosem.cut.vars' lays the variable. In a bare row this is a premise. The card (YtjndhfcfcedheaaGreatDoorCards.lean) ties it to the program's text. -/
def laid_transputer_depth_quiet {H : Type} : DataW H := .agg [.lit (.bool false), .lit (.bool false), .lit (.bool false), .lit (.bool false), .lit (.bool false), .lit (.bool false), .lit (.bool true), .lit (.bool true), .lit (.bool true), .lit (.bool true), .lit (.bool true), .lit (.bool true), .lit (.bool true), .lit (.bool true), .lit (.bool true), .lit (.bool true), .lit (.bool true), .lit (.bool true), .lit (.bool true), .lit (.bool true), .lit (.bool true), .lit (.bool true), .lit (.bool true), .lit (.bool false), .lit (.bool true), .lit (.bool true), .lit (.bool true)]

/-- 'transputerlaw24.SpaceMakes': WHATEVER THE INPUT: true; the input reads as it did. -/
def spaceMakesSpec : ChangeSpec := { name := "spaceMakes", fn := fun _ => fun
  | [d1, d2] => { results := [.lit (.bool true)], args := [d1, d2] }
  | _ => none }
def spaceMakesRow : OpenClaim := { program := "ytjndhfcfcedheaagreatdoor", sum := "2a3b460ee24ce038cacac36803935ab69876e112a8a01b8c9496b37031805470", func := "transputer/transputerlaw24.SpaceMakes", spec := "spaceMakes", unfollowed := true, recurses := true, named := ["transputer/depth.quiet"], loops := true, apart := false, laid := [("transputer/depth.quiet", laid_transputer_depth_quiet)] }
def SpaceMakesSaid : Prop := spaceMakesRow.holds Tryz.pinned (OpenSpec.ofChange spaceMakesSpec)

/-- ITS FALSE NEIGHBOUR: 'it returns false'. Refute it at one input. -/
def spaceMakesWrong : ChangeSpec := { name := "spaceMakes", fn := fun _ => fun
  | [d1, d2] => { results := [.lit (.bool false)], args := [d1, d2] }
  | _ => none }
def SpaceMakesWrongFalsely : Prop := spaceMakesRow.holds Tryz.pinned (OpenSpec.ofChange spaceMakesWrong)

/-- 'transputerlaw24.SpaceFinds': WHATEVER THE INPUT: true; the input reads as it did. -/
def spaceFindsSpec : ChangeSpec := { name := "spaceFinds", fn := fun _ => fun
  | [d1, d2, d3, d4, d5, d6] => { results := [.lit (.bool true)], args := [d1, d2, d3, d4, d5, d6] }
  | _ => none }
def spaceFindsRow : OpenClaim := { program := "ytjndhfcfcedheaagreatdoor", sum := "2a3b460ee24ce038cacac36803935ab69876e112a8a01b8c9496b37031805470", func := "transputer/transputerlaw24.SpaceFinds", spec := "spaceFinds", unfollowed := true, recurses := true, named := ["transputer/depth.quiet"], loops := true, apart := false, laid := [("transputer/depth.quiet", laid_transputer_depth_quiet)] }
def SpaceFindsSaid : Prop := spaceFindsRow.holds Tryz.pinned (OpenSpec.ofChange spaceFindsSpec)

/-- ITS FALSE NEIGHBOUR: 'it returns false'. Refute it at one input. -/
def spaceFindsWrong : ChangeSpec := { name := "spaceFinds", fn := fun _ => fun
  | [d1, d2, d3, d4, d5, d6] => { results := [.lit (.bool false)], args := [d1, d2, d3, d4, d5, d6] }
  | _ => none }
def SpaceFindsWrongFalsely : Prop := spaceFindsRow.holds Tryz.pinned (OpenSpec.ofChange spaceFindsWrong)

/- THE SECOND FORM. 'bulk': how many values and letters a reading holds, each counted each time it is reached (what is shared counts as often as it is met; a slice's spare places count too). A statement '..UptoSaid' is the law's where the arguments, and the package variables that the reading takes, are together of bulk at most 1048576: NARROWER than '..Said'. Prove '..Said' where nothing that the law and all that it calls make is longer than what came in: it says more and counts as full. Else prove '..UptoSaid'. A law counts once. -/
mutual
def uptoBulk {H : Type} : DataW H → Nat
  | .lit (.string bytes) => bytes.length + 1
  | .lit _ => 1
  | .nil => 1
  | .ptr d => uptoBulk d + 1
  | .slice elems spare => uptoBulkAll elems + uptoBulkAll spare + 1
  | .agg parts => uptoBulkAll parts + 1
  | .iface _ d => uptoBulk d + 1
  | .map entries => uptoBulkEntries entries + 1
  | .held _ => 1
def uptoBulkAll {H : Type} : List (DataW H) → Nat
  | [] => 0
  | d :: r => uptoBulk d + uptoBulkAll r
def uptoBulkEntries {H : Type} : List (Lit × DataW H) → Nat
  | [] => 0
  | x :: r => uptoBulkEntry x + uptoBulkEntries r
def uptoBulkEntry {H : Type} : Lit × DataW H → Nat
  | (.string bytes, d) => bytes.length + uptoBulk d + 1
  | (_, d) => uptoBulk d + 1
 end
def uptoSmall : (H : Type) → List (DataW H) → Bool := fun _ ds => decide (uptoBulkAll ds ≤ 1048576)
def OpenSpec.upto (s : _root_.Go.ChangeSpec) : _root_.Go.OpenSpec := { _root_.Go.OpenSpec.ofChange s with cond := some uptoSmall }

/-- 'transputerlaw24.SpaceMakes', WHERE WHAT IT READS IS OF BULK AT MOST 1048576: true; the input reads as it did. -/
def spaceMakesUptoRow : OpenClaim := { program := "ytjndhfcfcedheaagreatdoor", sum := "2a3b460ee24ce038cacac36803935ab69876e112a8a01b8c9496b37031805470", func := "transputer/transputerlaw24.SpaceMakes", spec := "spaceMakes", unfollowed := true, recurses := true, named := ["transputer/depth.quiet"], loops := true, apart := false, laid := [("transputer/depth.quiet", laid_transputer_depth_quiet)], narrowed := true }
def SpaceMakesUptoSaid : Prop := spaceMakesUptoRow.holds Tryz.pinned (OpenSpec.upto spaceMakesSpec)

/-- 'transputerlaw24.SpaceFinds', WHERE WHAT IT READS IS OF BULK AT MOST 1048576: true; the input reads as it did. -/
def spaceFindsUptoRow : OpenClaim := { program := "ytjndhfcfcedheaagreatdoor", sum := "2a3b460ee24ce038cacac36803935ab69876e112a8a01b8c9496b37031805470", func := "transputer/transputerlaw24.SpaceFinds", spec := "spaceFinds", unfollowed := true, recurses := true, named := ["transputer/depth.quiet"], loops := true, apart := false, laid := [("transputer/depth.quiet", laid_transputer_depth_quiet)], narrowed := true }
def SpaceFindsUptoSaid : Prop := spaceFindsUptoRow.holds Tryz.pinned (OpenSpec.upto spaceFindsSpec)

end Rows
end Go.Proofs.YtjndhfcfcedheaaGreatDoor
