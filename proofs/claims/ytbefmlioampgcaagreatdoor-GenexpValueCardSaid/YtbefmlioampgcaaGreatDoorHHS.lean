/- A row's wrap that keeps what is laid and the world's shape alike. -/
import Derived.Test.YtbefmlioampgcaaGreatDoorRows
import Derived.SizedLaws
import Derived.Handed
import Derived.HandedShaped
import Derived.Shelf.Vars
import Derived.ProofKit
namespace Go.Proofs.YtbefmlioampgcaaGreatDoor
open Go Go.RowKit
variable {H : Type} {enc : TypeId × Value → H}
end Go.Proofs.YtbefmlioampgcaaGreatDoor
