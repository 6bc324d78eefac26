/-
  NARROWER THAN 'FOR EVERY INPUT', by the rows' own cells (each row's printed sentence says how): PlaceBetween: loops · PlaceFits: loops · PlaceTurned: loops.
  DERIVED. THE GIVEN ROWS OF THIS SEAT. 3 by the template 'for every input the law returns true; each argument reads behind the call as it read before'; 0 by the template 'total and deterministic' (their statements: YtekamebpjjkifaaTotals.lean).
  GIVEN WITH THE SEED: the statements are not yours to turn. If you find one false, say at which input.
  Laid BY PROGRAM, IN A SANDBOX (cutbox-rows.mjs): the forced cells as the released guide's own fill.sh prints them over the translation 180e286b669c1585… (all of the seat's roots in one cut). By AI agents, Wed Nov 11 2026. No macro, syntax, notation, axiom, sorry.
-/
import Derived.Test.YtekamebpjjkifaaChecked
import GoSem.Claim
import GoSem.ClaimJoined
import GoSem.ClaimMapViews
import Derived.JoinedTies
import Derived.KernelRfl
namespace Go.Proofs.Ytekamebpjjkifaa
/- THE CELL 'sum', in the pinned program and in every row, IS THE sha256 OF THE DUMP (.gsa) THAT YtekamebpjjkifaaProg.lean LOADS. Nothing in Lean hashes anything: it is a label: what it is worth is what the hold of that sum in a sandbox is worth. -/
noncomputable def Try.pinned : Pinned := { name := "ytekamebpjjkifaa", sum := "180e286b669c15852e87798badb0fd88d87548881a7093f90b755bbaa6e0651b", checked := Try.checked }
namespace Rows
def none {H : Type} : Left H := { results := [], args := [] }

/-- 'transputerlaw40.PlaceBetween': WHATEVER THE INPUT: true; the input reads as it did. -/
def placeBetweenSpec : ChangeSpec := { name := "placeBetween", fn := fun _ => fun
  | [d] => { results := [.lit (.bool true)], args := [d] }
  | _ => none }
def placeBetweenRow : OpenClaim := { program := "ytekamebpjjkifaa", sum := "180e286b669c15852e87798badb0fd88d87548881a7093f90b755bbaa6e0651b", func := "transputer/transputerlaw40.PlaceBetween", spec := "placeBetween", unfollowed := true, recurses := true, loops := true, plainKeys := false, apart := false }
def PlaceBetweenSaid : Prop := placeBetweenRow.holds Try.pinned (OpenSpec.ofChange placeBetweenSpec)

/-- ITS FALSE NEIGHBOUR: 'it returns false'. Refute it at one input. -/
def placeBetweenWrong : ChangeSpec := { name := "placeBetween", fn := fun _ => fun
  | [d] => { results := [.lit (.bool false)], args := [d] }
  | _ => none }
def PlaceBetweenWrongFalsely : Prop := placeBetweenRow.holds Try.pinned (OpenSpec.ofChange placeBetweenWrong)

/-- 'transputerlaw40.PlaceFits': WHATEVER THE INPUT: true; the input reads as it did. -/
def placeFitsSpec : ChangeSpec := { name := "placeFits", fn := fun _ => fun
  | [d1, d2, d3] => { results := [.lit (.bool true)], args := [d1, d2, d3] }
  | _ => none }
def placeFitsRow : OpenClaim := { program := "ytekamebpjjkifaa", sum := "180e286b669c15852e87798badb0fd88d87548881a7093f90b755bbaa6e0651b", func := "transputer/transputerlaw40.PlaceFits", spec := "placeFits", unfollowed := true, recurses := true, loops := true, plainKeys := false, apart := false }
def PlaceFitsSaid : Prop := placeFitsRow.holds Try.pinned (OpenSpec.ofChange placeFitsSpec)

/-- ITS FALSE NEIGHBOUR: 'it returns false'. Refute it at one input. -/
def placeFitsWrong : ChangeSpec := { name := "placeFits", fn := fun _ => fun
  | [d1, d2, d3] => { results := [.lit (.bool false)], args := [d1, d2, d3] }
  | _ => none }
def PlaceFitsWrongFalsely : Prop := placeFitsRow.holds Try.pinned (OpenSpec.ofChange placeFitsWrong)

/-- 'transputerlaw40.PlaceTurned': WHATEVER THE INPUT: true; the input reads as it did. -/
def placeTurnedSpec : ChangeSpec := { name := "placeTurned", fn := fun _ => fun
  | [d1, d2, d3] => { results := [.lit (.bool true)], args := [d1, d2, d3] }
  | _ => none }
def placeTurnedRow : OpenClaim := { program := "ytekamebpjjkifaa", sum := "180e286b669c15852e87798badb0fd88d87548881a7093f90b755bbaa6e0651b", func := "transputer/transputerlaw40.PlaceTurned", spec := "placeTurned", unfollowed := true, recurses := true, loops := true, plainKeys := false, apart := false }
def PlaceTurnedSaid : Prop := placeTurnedRow.holds Try.pinned (OpenSpec.ofChange placeTurnedSpec)

/-- ITS FALSE NEIGHBOUR: 'it returns false'. Refute it at one input. -/
def placeTurnedWrong : ChangeSpec := { name := "placeTurned", fn := fun _ => fun
  | [d1, d2, d3] => { results := [.lit (.bool false)], args := [d1, d2, d3] }
  | _ => none }
def PlaceTurnedWrongFalsely : Prop := placeTurnedRow.holds Try.pinned (OpenSpec.ofChange placeTurnedWrong)

/- THE SECOND FORM. 'bulk': how many values and letters a reading holds, each counted each time it is reached (what is shared counts as often as it is met; a slice's spare places count too). A statement '..UptoSaid' is the law's where the arguments, and the package variables that the reading takes, are together of bulk at most 1048576: NARROWER than '..Said'. Prove '..Said' where nothing that the law and all that it calls make is longer than what came in: it says more and counts as full. Else prove '..UptoSaid'. A law counts once. -/
mutual
def uptoBulk {H : Type} : DataW H → Nat
  | .lit (.string bytes) => bytes.length + 1
  | .lit _ => 1
  | .nil => 1
  | .ptr d => uptoBulk d + 1
  | .slice elems spare => uptoBulkAll elems + uptoBulkAll spare + 1
  | .agg parts => uptoBulkAll parts + 1
  | .iface _ d => uptoBulk d + 1
  | .map entries => uptoBulkEntries entries + 1
  | .held _ => 1
def uptoBulkAll {H : Type} : List (DataW H) → Nat
  | [] => 0
  | d :: r => uptoBulk d + uptoBulkAll r
def uptoBulkEntries {H : Type} : List (Lit × DataW H) → Nat
  | [] => 0
  | x :: r => uptoBulkEntry x + uptoBulkEntries r
def uptoBulkEntry {H : Type} : Lit × DataW H → Nat
  | (.string bytes, d) => bytes.length + uptoBulk d + 1
  | (_, d) => uptoBulk d + 1
 end
def uptoSmall : (H : Type) → List (DataW H) → Bool := fun _ ds => decide (uptoBulkAll ds ≤ 1048576)
def OpenSpec.upto (s : _root_.Go.ChangeSpec) : _root_.Go.OpenSpec := { _root_.Go.OpenSpec.ofChange s with cond := some uptoSmall }

/-- 'transputerlaw40.PlaceBetween', WHERE WHAT IT READS IS OF BULK AT MOST 1048576: true; the input reads as it did. -/
def placeBetweenUptoRow : OpenClaim := { program := "ytekamebpjjkifaa", sum := "180e286b669c15852e87798badb0fd88d87548881a7093f90b755bbaa6e0651b", func := "transputer/transputerlaw40.PlaceBetween", spec := "placeBetween", unfollowed := true, recurses := true, loops := true, plainKeys := false, apart := false, narrowed := true }
def PlaceBetweenUptoSaid : Prop := placeBetweenUptoRow.holds Try.pinned (OpenSpec.upto placeBetweenSpec)

/-- 'transputerlaw40.PlaceFits', WHERE WHAT IT READS IS OF BULK AT MOST 1048576: true; the input reads as it did. -/
def placeFitsUptoRow : OpenClaim := { program := "ytekamebpjjkifaa", sum := "180e286b669c15852e87798badb0fd88d87548881a7093f90b755bbaa6e0651b", func := "transputer/transputerlaw40.PlaceFits", spec := "placeFits", unfollowed := true, recurses := true, loops := true, plainKeys := false, apart := false, narrowed := true }
def PlaceFitsUptoSaid : Prop := placeFitsUptoRow.holds Try.pinned (OpenSpec.upto placeFitsSpec)

/-- 'transputerlaw40.PlaceTurned', WHERE WHAT IT READS IS OF BULK AT MOST 1048576: true; the input reads as it did. -/
def placeTurnedUptoRow : OpenClaim := { program := "ytekamebpjjkifaa", sum := "180e286b669c15852e87798badb0fd88d87548881a7093f90b755bbaa6e0651b", func := "transputer/transputerlaw40.PlaceTurned", spec := "placeTurned", unfollowed := true, recurses := true, loops := true, plainKeys := false, apart := false, narrowed := true }
def PlaceTurnedUptoSaid : Prop := placeTurnedUptoRow.holds Try.pinned (OpenSpec.upto placeTurnedSpec)

end Rows
end Go.Proofs.Ytekamebpjjkifaa
