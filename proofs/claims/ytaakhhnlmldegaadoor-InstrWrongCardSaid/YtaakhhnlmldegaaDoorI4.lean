
/- The reference's tables, walked. -/
import Derived.Test.YtaakhhnlmldegaaDoorI2
import Derived.Test.YtaakhhnlmldegaaDoorPR
namespace Go.Proofs.YtaakhhnlmldegaaDoor
open Go.RowKit
set_option linter.unusedVariables false
set_option linter.unusedSimpArgs false

def rowCells (r : IRow) : List Value := [.int .u8 r.fn, .int .i32 r.arg, .string (strB r.name), .int .i64 r.takes, .int .i64 r.leaves]
def rowsV (l : List IRow) : Array Value := (l.flatMap rowCells).toArray
end Go.Proofs.YtaakhhnlmldegaaDoor
