/- A valid line, walked in the program. -/
import Derived.Test.YtbefmlioampgcaaGreatDoorHK5
import Derived.Test.YtbefmlioampgcaaGreatDoorHK7
namespace Go.Proofs.YtbefmlioampgcaaGreatDoor
open Go.RowKit Go.Shelf

/-- A line's cells. -/
def lineC (x : LineL) : Array Value := #[.string (strB x.label), .int .u8 x.fn, .int .i32 x.arg, .string (strB x.target), .string (strB x.frm)]
/-- A line that Go can hold. -/
structure LOk (x : LineL) : Prop where
  fn : x.fn ≤ 255
  arg : is32 x.arg
  label : x.label.length ≤ 281474976710656
  target : x.target.length ≤ 281474976710656
  frm : x.frm.length ≤ 281474976710656
theorem strB_empty (l : List UInt8) : (strB l).toList.isEmpty = l.isEmpty := by rw [ByteArray.toList_eq]; rfl
theorem iLab (l : List UInt8) (h : l.length ≤ 281474976710656) (w : World) : Calls Tryz.prog 91 #[.string (strB l)] w (RetV (.bool (labelB l)) w) := by
  have := iLabel (strB l) (by rw [strB_size]; exact h) w
  rwa [show (strB l).data.toList = l by simp [strB]] at this
end Go.Proofs.YtbefmlioampgcaaGreatDoor
