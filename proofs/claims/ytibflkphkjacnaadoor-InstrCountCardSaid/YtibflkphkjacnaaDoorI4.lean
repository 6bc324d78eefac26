
/- The reference's tables, walked. -/
import Derived.Test.YtibflkphkjacnaaDoorI2
import Derived.Test.YtibflkphkjacnaaDoorPR
namespace Go.Proofs.YtibflkphkjacnaaDoor
open Go.RowKit
set_option linter.unusedVariables false
set_option linter.unusedSimpArgs false

def rowCells (r : IRow) : List Value := [.int .u8 r.fn, .int .i32 r.arg, .string (strB r.name), .int .i64 r.takes, .int .i64 r.leaves]
def rowsV (l : List IRow) : Array Value := (l.flatMap rowCells).toArray
set_option maxRecDepth 100000 in
theorem rFunctions (w : World) : Calls Tryd.prog 21 #[] w fun e w' => e = .returned (.slice (some ⟨w.heap.size, 0, none⟩) 13 13) ∧ w' = w.alloc (.cells (rowsV tabF) 25) := by
  go_enter Tryd.func21, Tryd.ntmps21
  go_upto_region 1 with (fail)
  refine wp_region_slot (s := 0) (v := .slice (some ⟨w.heap.size, 0, none⟩) 13 13) (w' := w.alloc (.cells (rowsV tabF) 25)) (by kernel_rfl) ?_
  intro t ht
  go_wp2
  go_ret
  exact ⟨by rw [ht], rfl⟩
set_option maxRecDepth 100000 in
theorem rOperations (w : World) : Calls Tryd.prog 22 #[] w fun e w' => e = .returned (.slice (some ⟨w.heap.size, 0, none⟩) 74 74) ∧ w' = w.alloc (.cells (rowsV tabO) 25) := by
  go_enter Tryd.func22, Tryd.ntmps22
  refine wp_seq ?_
  refine wp_region_runOps (a' := { tmps := (Array.replicate 150 undef).setIfInBounds 0 (.slice none 0 0), defers := [] }) (w' := w) (by kernel_rfl) ?_
  refine wp_seq ?_
  refine wp_region_slot (s := 0) (v := .slice (some ⟨w.heap.size, 0, none⟩) 74 74) (w' := w.alloc (.cells (rowsV tabO) 25)) (by kernel_rfl) ?_
  intro t ht
  refine wp_ret ?_
  go_ret
  exact ⟨by rw [ht], rfl⟩
end Go.Proofs.YtibflkphkjacnaaDoor
