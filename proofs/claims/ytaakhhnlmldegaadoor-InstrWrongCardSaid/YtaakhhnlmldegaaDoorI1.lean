/- strings.Cut at one space, of a string of any length, walked; digits of the tables. -/
import Derived.Test.YtaakhhnlmldegaaDoorQ2
import Derived.Shelf.Small.Strs
import Derived.Lib.Bytealg
namespace Go.Proofs.YtaakhhnlmldegaaDoor
open Go.RowKit Go.Shelf

theorem idx_tw (c : UInt8) : ∀ l : List UInt8, Lib.indexByte l c = if l.dropWhile (· != c) = [] then -1 else ((l.takeWhile (· != c)).length : Int)
  | [] => rfl
  | b :: l => by
    have ih := idx_tw c l
    rw [Lib.indexByte]
    by_cases h : b = c
    · subst h; simp
    · have h1 : (b == c) = false := by simpa using h
      have h2 : (b != c) = true := by simpa using h
      simp only [h1, List.dropWhile_cons, List.takeWhile_cons, h2, if_true]
      rw [ih]
      by_cases h3 : l.dropWhile (· != c) = []
      · simp [h3]
      · have h4 : ¬ (((l.takeWhile (· != c)).length : Int) == -1) = true := by simp
        simp only [h3, if_false, Bool.false_eq_true, h4, List.length_cons, Int.natCast_add, Int.natCast_one]
theorem take_tw (c : UInt8) (l : List UInt8) : l.take (l.takeWhile (· != c)).length = l.takeWhile (· != c) := by
  induction l with
  | nil => rfl
  | cons b l ih =>
    rw [List.takeWhile_cons]
    split
    · rw [List.length_cons, List.take_succ_cons, ih]
    · rfl
theorem drop_tw (c : UInt8) (l : List UInt8) : l.drop (l.takeWhile (· != c)).length = l.dropWhile (· != c) := by
  induction l with
  | nil => rfl
  | cons b l ih =>
    rw [List.takeWhile_cons, List.dropWhile_cons]
    split
    · rw [List.length_cons, List.drop_succ_cons, ih]
    · rfl
theorem drop_tw1 (c : UInt8) (l : List UInt8) : l.drop ((l.takeWhile (· != c)).length + 1) = (l.dropWhile (· != c)).tail := by
  rw [← drop_tw, List.tail_drop]
theorem tw_le (c : UInt8) (l : List UInt8) : (l.takeWhile (· != c)).length ≤ l.length := (List.takeWhile_sublist _).length_le
theorem tw_lt (c : UInt8) (l : List UInt8) (h : l.dropWhile (· != c) ≠ []) : (l.takeWhile (· != c)).length < l.length := by
  have h1 := tw_le c l
  rcases Nat.lt_or_eq_of_le h1 with h2 | h2
  · exact h2
  · exact absurd (by rw [← drop_tw, h2]; simp) h
theorem tw_none (c : UInt8) (l : List UInt8) (h : l.dropWhile (· != c) = []) : l.takeWhile (· != c) = l := by
  have := List.takeWhile_append_dropWhile (p := (· != c)) (l := l)
  rw [h, List.append_nil] at this; exact this
end Go.Proofs.YtaakhhnlmldegaaDoor
