
/- The reference's Read, walked. -/
import Derived.Test.YtaakhhnlmldegaaDoorI7
namespace Go.Proofs.YtaakhhnlmldegaaDoor
open Go.RowKit
set_option linter.unusedVariables false
set_option linter.unusedSimpArgs false

noncomputable def readIV (l : List UInt8) : Value := .tuple #[.agg #[.int .u8 (readI l).1, .int .i32 (readI l).2.1], .int .i64 (readI l).2.2]
theorem tw_at (c : UInt8) : ∀ (l : List UInt8) (k : Nat), k < (l.takeWhile (· != c)).length → ∃ d, l[k]? = some d ∧ d ≠ c
  | [], k, h => by simp at h
  | a :: l, k, h => by
    by_cases hac : a = c
    · simp [hac] at h
    · have e : (a :: l).takeWhile (· != c) = a :: l.takeWhile (· != c) := by simp [hac]
      rw [e] at h
      cases k with
      | zero => exact ⟨a, rfl, hac⟩
      | succ k => exact tw_at c l k (by simpa using h)
theorem tw_end (c : UInt8) : ∀ (l : List UInt8), (l.takeWhile (· != c)).length < l.length → l[(l.takeWhile (· != c)).length]? = some c
  | [], h => by simp at h
  | a :: l, h => by
    by_cases hac : a = c
    · simp [hac]
    · have e : (a :: l).takeWhile (· != c) = a :: l.takeWhile (· != c) := by simp [hac]
      rw [e] at h ⊢
      simp only [List.length_cons, List.getElem?_cons_succ]
      exact tw_end c l (by simpa using h)
theorem str_get {S : ByteArray} {k : Nat} {d : UInt8} (h : S.data.toList[k]? = some d) : ∃ hk : k < S.size, S[k] = d := by
  obtain ⟨h1, h2⟩ := List.getElem?_eq_some_iff.1 h
  exact ⟨by simpa using h1, by simpa [ByteArray.getElem_eq_getElem_data] using h2⟩
end Go.Proofs.YtaakhhnlmldegaaDoor
