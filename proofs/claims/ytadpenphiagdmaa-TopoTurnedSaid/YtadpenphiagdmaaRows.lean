/-
  No cell of these rows narrows 'for every input' (looked for: loops, veiled, ifaces, maps, wideKeys, modest, calm, conditions, laid).
  DERIVED. THE GIVEN ROWS OF THIS SEAT. 6 by the template 'for every input the law returns true; each argument reads behind the call as it read before'; 0 by the template 'total and deterministic' (their statements: YtadpenphiagdmaaTotals.lean).
  GIVEN WITH THE SEED: the statements are not yours to turn. If you find one false, say at which input.
  Laid BY PROGRAM, IN A SANDBOX (cutbox-rows.mjs): the forced cells as the released guide's own fill.sh prints them over the translation abd82ee2d2185d97… (all of the seat's roots in one cut). By AI agents, Wed Nov 11 2026. No macro, syntax, notation, axiom, sorry.
-/
import Derived.Test.YtadpenphiagdmaaChecked
import GoSem.Claim
import GoSem.ClaimJoined
import GoSem.ClaimMapViews
import Derived.JoinedTies
import Derived.KernelRfl
namespace Go.Proofs.Ytadpenphiagdmaa
/- THE CELL 'sum', in the pinned program and in every row, IS THE sha256 OF THE DUMP (.gsa) THAT YtadpenphiagdmaaProg.lean LOADS. Nothing in Lean hashes anything: it is a label: what it is worth is what the hold of that sum in a sandbox is worth. -/
noncomputable def Try.pinned : Pinned := { name := "ytadpenphiagdmaa", sum := "abd82ee2d2185d97b9691a5052d2412f9d44ebd8d04e40e3f04cbdd54ce90f79", checked := Try.checked }
namespace Rows
def none {H : Type} : Left H := { results := [], args := [] }

/-- 'transputerlaw35.TopoTrees': WHATEVER THE INPUT: true; the input reads as it did. -/
def topoTreesSpec : ChangeSpec := { name := "topoTrees", fn := fun _ => fun
  | [d1, d2, d3] => { results := [.lit (.bool true)], args := [d1, d2, d3] }
  | _ => none }
def topoTreesRow : OpenClaim := { program := "ytadpenphiagdmaa", sum := "abd82ee2d2185d97b9691a5052d2412f9d44ebd8d04e40e3f04cbdd54ce90f79", func := "transputer/transputerlaw35.TopoTrees", spec := "topoTrees", unfollowed := true, recurses := true, plainKeys := false, apart := false }
def TopoTreesSaid : Prop := topoTreesRow.holds Try.pinned (OpenSpec.ofChange topoTreesSpec)

/-- ITS FALSE NEIGHBOUR: 'it returns false'. Refute it at one input. -/
def topoTreesWrong : ChangeSpec := { name := "topoTrees", fn := fun _ => fun
  | [d1, d2, d3] => { results := [.lit (.bool false)], args := [d1, d2, d3] }
  | _ => none }
def TopoTreesWrongFalsely : Prop := topoTreesRow.holds Try.pinned (OpenSpec.ofChange topoTreesWrong)

/-- 'transputerlaw35.TopoPeers': WHATEVER THE INPUT: true; the input reads as it did. -/
def topoPeersSpec : ChangeSpec := { name := "topoPeers", fn := fun _ => fun
  | [d1, d2] => { results := [.lit (.bool true)], args := [d1, d2] }
  | _ => none }
def topoPeersRow : OpenClaim := { program := "ytadpenphiagdmaa", sum := "abd82ee2d2185d97b9691a5052d2412f9d44ebd8d04e40e3f04cbdd54ce90f79", func := "transputer/transputerlaw35.TopoPeers", spec := "topoPeers", unfollowed := true, recurses := true, plainKeys := false, apart := false }
def TopoPeersSaid : Prop := topoPeersRow.holds Try.pinned (OpenSpec.ofChange topoPeersSpec)

/-- ITS FALSE NEIGHBOUR: 'it returns false'. Refute it at one input. -/
def topoPeersWrong : ChangeSpec := { name := "topoPeers", fn := fun _ => fun
  | [d1, d2] => { results := [.lit (.bool false)], args := [d1, d2] }
  | _ => none }
def TopoPeersWrongFalsely : Prop := topoPeersRow.holds Try.pinned (OpenSpec.ofChange topoPeersWrong)

/-- 'transputerlaw35.TopoRoutes': WHATEVER THE INPUT: true; the input reads as it did. -/
def topoRoutesSpec : ChangeSpec := { name := "topoRoutes", fn := fun _ => fun
  | [d1, d2, d3] => { results := [.lit (.bool true)], args := [d1, d2, d3] }
  | _ => none }
def topoRoutesRow : OpenClaim := { program := "ytadpenphiagdmaa", sum := "abd82ee2d2185d97b9691a5052d2412f9d44ebd8d04e40e3f04cbdd54ce90f79", func := "transputer/transputerlaw35.TopoRoutes", spec := "topoRoutes", unfollowed := true, recurses := true, plainKeys := false, apart := false }
def TopoRoutesSaid : Prop := topoRoutesRow.holds Try.pinned (OpenSpec.ofChange topoRoutesSpec)

/-- ITS FALSE NEIGHBOUR: 'it returns false'. Refute it at one input. -/
def topoRoutesWrong : ChangeSpec := { name := "topoRoutes", fn := fun _ => fun
  | [d1, d2, d3] => { results := [.lit (.bool false)], args := [d1, d2, d3] }
  | _ => none }
def TopoRoutesWrongFalsely : Prop := topoRoutesRow.holds Try.pinned (OpenSpec.ofChange topoRoutesWrong)

/-- 'transputerlaw35.TopoNear': WHATEVER THE INPUT: true; the input reads as it did. -/
def topoNearSpec : ChangeSpec := { name := "topoNear", fn := fun _ => fun
  | [d] => { results := [.lit (.bool true)], args := [d] }
  | _ => none }
def topoNearRow : OpenClaim := { program := "ytadpenphiagdmaa", sum := "abd82ee2d2185d97b9691a5052d2412f9d44ebd8d04e40e3f04cbdd54ce90f79", func := "transputer/transputerlaw35.TopoNear", spec := "topoNear", unfollowed := true, recurses := true, plainKeys := false, apart := false }
def TopoNearSaid : Prop := topoNearRow.holds Try.pinned (OpenSpec.ofChange topoNearSpec)

/-- ITS FALSE NEIGHBOUR: 'it returns false'. Refute it at one input. -/
def topoNearWrong : ChangeSpec := { name := "topoNear", fn := fun _ => fun
  | [d] => { results := [.lit (.bool false)], args := [d] }
  | _ => none }
def TopoNearWrongFalsely : Prop := topoNearRow.holds Try.pinned (OpenSpec.ofChange topoNearWrong)

/-- 'transputerlaw35.TopoTurned': WHATEVER THE INPUT: true; the input reads as it did. -/
def topoTurnedSpec : ChangeSpec := { name := "topoTurned", fn := fun _ => fun
  | [d1, d2] => { results := [.lit (.bool true)], args := [d1, d2] }
  | _ => none }
def topoTurnedRow : OpenClaim := { program := "ytadpenphiagdmaa", sum := "abd82ee2d2185d97b9691a5052d2412f9d44ebd8d04e40e3f04cbdd54ce90f79", func := "transputer/transputerlaw35.TopoTurned", spec := "topoTurned", unfollowed := true, recurses := true, plainKeys := false, apart := false }
def TopoTurnedSaid : Prop := topoTurnedRow.holds Try.pinned (OpenSpec.ofChange topoTurnedSpec)

/-- ITS FALSE NEIGHBOUR: 'it returns false'. Refute it at one input. -/
def topoTurnedWrong : ChangeSpec := { name := "topoTurned", fn := fun _ => fun
  | [d1, d2] => { results := [.lit (.bool false)], args := [d1, d2] }
  | _ => none }
def TopoTurnedWrongFalsely : Prop := topoTurnedRow.holds Try.pinned (OpenSpec.ofChange topoTurnedWrong)

/-- 'transputerlaw35.TopoKnown': WHATEVER THE INPUT: true; the input reads as it did. -/
def topoKnownSpec : ChangeSpec := { name := "topoKnown", fn := fun _ => fun
  | [] => { results := [.lit (.bool true)], args := [] }
  | _ => none }
def topoKnownRow : OpenClaim := { program := "ytadpenphiagdmaa", sum := "abd82ee2d2185d97b9691a5052d2412f9d44ebd8d04e40e3f04cbdd54ce90f79", func := "transputer/transputerlaw35.TopoKnown", spec := "topoKnown", unfollowed := true, recurses := true, plainKeys := false, apart := false }
def TopoKnownSaid : Prop := topoKnownRow.holds Try.pinned (OpenSpec.ofChange topoKnownSpec)

/-- ITS FALSE NEIGHBOUR: 'it returns false'. Refute it at one input. -/
def topoKnownWrong : ChangeSpec := { name := "topoKnown", fn := fun _ => fun
  | [] => { results := [.lit (.bool false)], args := [] }
  | _ => none }
def TopoKnownWrongFalsely : Prop := topoKnownRow.holds Try.pinned (OpenSpec.ofChange topoKnownWrong)

/- THE SECOND FORM. 'bulk': how many values and letters a reading holds, each counted each time it is reached (what is shared counts as often as it is met; a slice's spare places count too). A statement '..UptoSaid' is the law's where the arguments, and the package variables that the reading takes, are together of bulk at most 1048576: NARROWER than '..Said'. Prove '..Said' where nothing that the law and all that it calls make is longer than what came in: it says more and counts as full. Else prove '..UptoSaid'. A law counts once. -/
mutual
def uptoBulk {H : Type} : DataW H → Nat
  | .lit (.string bytes) => bytes.length + 1
  | .lit _ => 1
  | .nil => 1
  | .ptr d => uptoBulk d + 1
  | .slice elems spare => uptoBulkAll elems + uptoBulkAll spare + 1
  | .agg parts => uptoBulkAll parts + 1
  | .iface _ d => uptoBulk d + 1
  | .map entries => uptoBulkEntries entries + 1
  | .held _ => 1
def uptoBulkAll {H : Type} : List (DataW H) → Nat
  | [] => 0
  | d :: r => uptoBulk d + uptoBulkAll r
def uptoBulkEntries {H : Type} : List (Lit × DataW H) → Nat
  | [] => 0
  | x :: r => uptoBulkEntry x + uptoBulkEntries r
def uptoBulkEntry {H : Type} : Lit × DataW H → Nat
  | (.string bytes, d) => bytes.length + uptoBulk d + 1
  | (_, d) => uptoBulk d + 1
 end
def uptoSmall : (H : Type) → List (DataW H) → Bool := fun _ ds => decide (uptoBulkAll ds ≤ 1048576)
def OpenSpec.upto (s : _root_.Go.ChangeSpec) : _root_.Go.OpenSpec := { _root_.Go.OpenSpec.ofChange s with cond := some uptoSmall }

/-- 'transputerlaw35.TopoTrees', WHERE WHAT IT READS IS OF BULK AT MOST 1048576: true; the input reads as it did. -/
def topoTreesUptoRow : OpenClaim := { program := "ytadpenphiagdmaa", sum := "abd82ee2d2185d97b9691a5052d2412f9d44ebd8d04e40e3f04cbdd54ce90f79", func := "transputer/transputerlaw35.TopoTrees", spec := "topoTrees", unfollowed := true, recurses := true, plainKeys := false, apart := false, narrowed := true }
def TopoTreesUptoSaid : Prop := topoTreesUptoRow.holds Try.pinned (OpenSpec.upto topoTreesSpec)

/-- 'transputerlaw35.TopoPeers', WHERE WHAT IT READS IS OF BULK AT MOST 1048576: true; the input reads as it did. -/
def topoPeersUptoRow : OpenClaim := { program := "ytadpenphiagdmaa", sum := "abd82ee2d2185d97b9691a5052d2412f9d44ebd8d04e40e3f04cbdd54ce90f79", func := "transputer/transputerlaw35.TopoPeers", spec := "topoPeers", unfollowed := true, recurses := true, plainKeys := false, apart := false, narrowed := true }
def TopoPeersUptoSaid : Prop := topoPeersUptoRow.holds Try.pinned (OpenSpec.upto topoPeersSpec)

/-- 'transputerlaw35.TopoRoutes', WHERE WHAT IT READS IS OF BULK AT MOST 1048576: true; the input reads as it did. -/
def topoRoutesUptoRow : OpenClaim := { program := "ytadpenphiagdmaa", sum := "abd82ee2d2185d97b9691a5052d2412f9d44ebd8d04e40e3f04cbdd54ce90f79", func := "transputer/transputerlaw35.TopoRoutes", spec := "topoRoutes", unfollowed := true, recurses := true, plainKeys := false, apart := false, narrowed := true }
def TopoRoutesUptoSaid : Prop := topoRoutesUptoRow.holds Try.pinned (OpenSpec.upto topoRoutesSpec)

/-- 'transputerlaw35.TopoNear', WHERE WHAT IT READS IS OF BULK AT MOST 1048576: true; the input reads as it did. -/
def topoNearUptoRow : OpenClaim := { program := "ytadpenphiagdmaa", sum := "abd82ee2d2185d97b9691a5052d2412f9d44ebd8d04e40e3f04cbdd54ce90f79", func := "transputer/transputerlaw35.TopoNear", spec := "topoNear", unfollowed := true, recurses := true, plainKeys := false, apart := false, narrowed := true }
def TopoNearUptoSaid : Prop := topoNearUptoRow.holds Try.pinned (OpenSpec.upto topoNearSpec)

/-- 'transputerlaw35.TopoTurned', WHERE WHAT IT READS IS OF BULK AT MOST 1048576: true; the input reads as it did. -/
def topoTurnedUptoRow : OpenClaim := { program := "ytadpenphiagdmaa", sum := "abd82ee2d2185d97b9691a5052d2412f9d44ebd8d04e40e3f04cbdd54ce90f79", func := "transputer/transputerlaw35.TopoTurned", spec := "topoTurned", unfollowed := true, recurses := true, plainKeys := false, apart := false, narrowed := true }
def TopoTurnedUptoSaid : Prop := topoTurnedUptoRow.holds Try.pinned (OpenSpec.upto topoTurnedSpec)

/-- 'transputerlaw35.TopoKnown', WHERE WHAT IT READS IS OF BULK AT MOST 1048576: true; the input reads as it did. -/
def topoKnownUptoRow : OpenClaim := { program := "ytadpenphiagdmaa", sum := "abd82ee2d2185d97b9691a5052d2412f9d44ebd8d04e40e3f04cbdd54ce90f79", func := "transputer/transputerlaw35.TopoKnown", spec := "topoKnown", unfollowed := true, recurses := true, plainKeys := false, apart := false, narrowed := true }
def TopoKnownUptoSaid : Prop := topoKnownUptoRow.holds Try.pinned (OpenSpec.upto topoKnownSpec)

end Rows
end Go.Proofs.Ytadpenphiagdmaa
