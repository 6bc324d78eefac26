
/- The reference's Find, walked. -/
import Derived.Test.YtaakhhnlmldegaaDoorI4
namespace Go.Proofs.YtaakhhnlmldegaaDoor
open Go.RowKit
set_option linter.unusedVariables false
set_option linter.unusedSimpArgs false

def rowA (r : IRow) : Value := .agg #[.int .u8 r.fn, .int .i32 r.arg, .string (strB r.name), .int .i64 r.takes, .int .i64 r.leaves]
/-- A row, or none, as Find hands it back. -/
def rowR (o : Option IRow) : Value := .tuple #[rowA (o.getD irow0), .bool o.isSome]
theorem rowsV_at {l : List IRow} {k : Nat} {r : IRow} (h : l[k]? = some r) : (rowsV l)[k * 5]? = some (.int .u8 r.fn) ∧ (rowsV l)[k * 5 + 1]? = some (.int .i32 r.arg) ∧ (rowsV l)[k * 5 + 2]? = some (.string (strB r.name)) ∧
    (rowsV l)[k * 5 + 3]? = some (.int .i64 r.takes) ∧ (rowsV l)[k * 5 + 4]? = some (.int .i64 r.leaves) := by
  have hg : ∀ j v, (rowCells r)[j]? = some v → (rowsV l)[k * 5 + j]? = some v := by
    intro j v hv
    have hj : j < 5 := by
      have := (List.getElem?_eq_some_iff.1 hv).1
      simpa [rowCells] using this
    have : ∀ (l : List IRow) (k : Nat), l[k]? = some r → (l.flatMap rowCells)[k * 5 + j]? = some v := by
      intro l
      induction l with
      | nil => intro k h; simp at h
      | cons x l ih =>
        intro k h
        cases k with
        | zero =>
          simp at h; subst h
          rw [List.flatMap_cons, List.getElem?_append_left (by simp [rowCells]; omega)]
          simpa using hv
        | succ k =>
          rw [List.flatMap_cons, List.getElem?_append_right (by simp [rowCells]; omega)]
          have e : (k + 1) * 5 + j - (rowCells x).length = k * 5 + j := by simp [rowCells]; omega
          rw [e]
          exact ih k (by simpa using h)
    simp only [rowsV, List.getElem?_toArray]
    exact this l k h
  exact ⟨hg 0 _ rfl, hg 1 _ rfl, hg 2 _ rfl, hg 3 _ rfl, hg 4 _ rfl⟩
end Go.Proofs.YtaakhhnlmldegaaDoor
