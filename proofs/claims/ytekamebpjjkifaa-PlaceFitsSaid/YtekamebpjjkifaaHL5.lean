/- The law PlaceFits, walked whole. -/
import Derived.Test.YtekamebpjjkifaaHL4
namespace Go.Proofs.Ytekamebpjjkifaa
open Go.RowKit Go.Maps

theorem lPlaceFits (k : KK) (t : TN) (l : List Plc) (LA : Option Addr) (lc : Nat) (B : Nat) (w : World) (hk : k.In w B) (ht : t.In w B) (hl : Reads w B 5 LA l.length (plcC l)) (hB : B ≤ w.heap.size) (hcap : k.procs.length ≤ k.cp) (hll : l.length ≤ 140737488355328) (hlo : ∀ y ∈ l, okPt y.o ∧ okPt y.i) :
    Calls Try.prog 4 #[.agg k.flat, .agg t.flat, .slice LA l.length lc] w (RetV (.bool true) w) := by
  by_cases he : (makeQ k t).1 = 0
  · exact lPlaceFits_ok k t l LA lc B w hk ht hl hB hcap hll hlo he
  · exact lPlaceFits_err k t l LA lc B w hk ht hl hB hcap hll hlo he
end Go.Proofs.Ytekamebpjjkifaa
