
/- The reference's Text, walked. -/
import Derived.Test.YtaakhhnlmldegaaDoorI6
namespace Go.Proofs.YtaakhhnlmldegaaDoor
open Go.RowKit
set_option linter.unusedVariables false
set_option linter.unusedSimpArgs false

def textV (fn arg : Int) : Value := .tuple #[.string (strB (textI fn arg).1), .int .i64 (textI fn arg).2]
theorem textI_none {fn arg : Int} (h : findI fn arg = none) : textI fn arg = ([], 2) := by unfold textI; rw [h]
theorem textI_15 {arg : Int} {r : IRow} (h : findI 15 arg = some r) : textI 15 arg = (r.name, 0) := by unfold textI; rw [h]; rfl
theorem textI_fn {fn arg : Int} {r : IRow} (h : findI fn arg = some r) (h15 : fn ≠ 15) : textI fn arg = (r.name ++ 32 :: textL arg false, 0) := by unfold textI; rw [h]; simp [h15]
theorem strB_sp (l m : List UInt8) : strB l ++ ⟨#[32]⟩ ++ strB m = strB (l ++ 32 :: m) := by
  have e : (⟨#[32]⟩ : ByteArray) = strB [32] := rfl
  rw [e, str_append, str_append, List.append_assoc]; rfl
theorem tt_eq {l l' : List UInt8} {k k' : Int} (h : (l, k) = (l', k')) : Ending.returned (.tuple #[.string (strB l), .int .i64 k]) = .returned (.tuple #[.string (strB l'), .int .i64 k']) := by
  injection h with h1 h2; rw [h1, h2]
theorem strB_size (l : List UInt8) : (strB l).size = l.length := rfl
theorem textS_size (a : Int) (h : Bool) (ha : is32 a) : (strB (textL a h)).size ≤ 11 := by
  rw [strB_size]; exact (textL_len (g := h) ha).2
end Go.Proofs.YtaakhhnlmldegaaDoor
