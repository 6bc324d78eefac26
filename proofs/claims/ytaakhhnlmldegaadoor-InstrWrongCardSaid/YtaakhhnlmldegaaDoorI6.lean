
/- The reference's Named, walked. -/
import Derived.Test.YtaakhhnlmldegaaDoorI5
namespace Go.Proofs.YtaakhhnlmldegaaDoor
open Go.RowKit
set_option linter.unusedVariables false
set_option linter.unusedSimpArgs false

/-- An instruction, or none, as Named hands it back. -/
def instR (o : Option IRow) : Value := .tuple #[.agg #[.int .u8 (o.getD irow0).fn, .int .i32 (o.getD irow0).arg], .bool o.isSome]
theorem tab_len : (tabF ++ tabO).length = 87 := rfl
theorem rows_one (l : List IRow) : ∀ u ∈ (rowsV l).toList, u.oneCell' = true := by
  intro u hu
  simp only [rowsV] at hu
  obtain ⟨r, _, h⟩ := List.mem_flatMap.1 hu
  simp only [rowCells, List.mem_cons, List.not_mem_nil, or_false] at h
  rcases h with rfl | rfl | rfl | rfl | rfl <;> rfl
theorem rowsV_size (l : List IRow) : (rowsV l).size = l.length * 5 := by
  simp only [rowsV, List.size_toArray, List.length_flatMap]
  induction l with
  | nil => rfl
  | cons r l ih => simp [rowCells] at ih ⊢; omega
theorem rowsV_app (l m : List IRow) : (rowsV l).toList ++ (rowsV m).toList = (rowsV (l ++ m)).toList := by simp [rowsV]
end Go.Proofs.YtaakhhnlmldegaaDoor
