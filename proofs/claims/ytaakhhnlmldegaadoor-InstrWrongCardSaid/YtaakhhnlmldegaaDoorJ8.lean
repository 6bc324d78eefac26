
/- The laws InstrBack and InstrHex: what is written is read back. -/
import Derived.Test.YtaakhhnlmldegaaDoorJ6
namespace Go.Proofs.YtaakhhnlmldegaaDoor
open Go.RowKit
set_option linter.unusedVariables false
set_option linter.unusedSimpArgs false

theorem text_size {fn arg : Int} (ha : is32 arg) : (strB (textI fn arg).1).size ≤ 281474976710656 := by
  have h : (textI fn arg).1.length ≤ 100 := by
    unfold textI
    cases hf : findI fn arg with
    | none => simp
    | some r =>
      obtain ⟨hm, -⟩ := findI_some hf
      obtain ⟨-, -, hn⟩ := row_ok hm
      have hl := textL_len (g := false) ha
      simp only
      split
      · omega
      · simp only [List.length_append, List.length_cons]; omega
  rw [strB_size]; omega
theorem str_eq2 (l m : List UInt8) : ((strB l).toList == (strB m).toList) = (l == m) := by
  rw [ByteArray.toList_eq, ByteArray.toList_eq]; rfl
theorem read_of_text {fn arg : Int} (ha : is32 arg) (h : (textI fn arg).2 = 0) : readIV (strB (textI fn arg).1).data.toList = .tuple #[.agg #[.int .u8 fn, .int .i32 arg], .int .i64 0] := by
  have e : (strB (textI fn arg).1).data.toList = (textI fn arg).1 := by simp [strB]
  rw [e, readIV, read_text_I ha h]
theorem text_err {fn arg : Int} {r : IRow} (h : findI fn arg = some r) : (textI fn arg).2 = 0 := by unfold textI; rw [h]
end Go.Proofs.YtaakhhnlmldegaaDoor
