
/- The reference's arithmetic, walked: each function has the answer of the program's function. -/
import Derived.Test.YtaakhhnlmldegaaDoorW2
namespace Go.Proofs.YtaakhhnlmldegaaDoor
open Go.RowKit
set_option linter.unusedVariables false
set_option linter.unusedSimpArgs false

theorem wrap32_is (t : Int) : is32 (wrap32 t) := by unfold is32 wrap32; omega
theorem tdiv_abs {a b : Int} : a.tdiv b = if (a < 0) = (b < 0) then ((a.natAbs / b.natAbs : Nat) : Int) else -((a.natAbs / b.natAbs : Nat) : Int) := by
  rcases Int.natAbs_eq a with h | h <;> rcases Int.natAbs_eq b with h' | h'
  · have h1 : ¬ a < 0 := by omega
    have h2 : ¬ b < 0 := by omega
    rw [if_pos (by simp [h1, h2])]
    conv => lhs; rw [h, h']
    rfl
  · by_cases hb : b = 0
    · subst hb; simp
    · have h1 : ¬ a < 0 := by omega
      have h2 : b < 0 := by omega
      rw [if_neg (by simp [h1, h2])]
      conv => lhs; rw [h, h']
      rw [Int.tdiv_neg]; rfl
  · by_cases ha : a = 0
    · subst ha; simp
    · have h1 : a < 0 := by omega
      have h2 : ¬ b < 0 := by omega
      rw [if_neg (by simp [h1, h2])]
      conv => lhs; rw [h, h']
      rw [Int.neg_tdiv]; rfl
  · by_cases ha : a = 0
    · subst ha; simp
    · by_cases hb : b = 0
      · subst hb; simp
      · have h1 : a < 0 := by omega
        have h2 : b < 0 := by omega
        rw [if_pos (by simp [h1, h2])]
        conv => lhs; rw [h, h']
        rw [Int.tdiv_neg, Int.neg_tdiv, Int.neg_neg]; rfl
theorem tmod_abs {a b : Int} : a.tmod b = if a < 0 then -((a.natAbs % b.natAbs : Nat) : Int) else ((a.natAbs % b.natAbs : Nat) : Int) := by
  have hb : a.tmod b = a.tmod (b.natAbs : Int) := by
    rcases Int.natAbs_eq b with h' | h'
    · conv => lhs; rw [h']
    · conv => lhs; rw [h', Int.tmod_neg]
  rw [hb]
  rcases Int.natAbs_eq a with h | h
  · have h1 : ¬ a < 0 := by omega
    rw [if_neg h1]
    conv => lhs; rw [h]
    rfl
  · by_cases ha : a = 0
    · subst ha; simp
    · rw [if_pos (by omega)]
      conv => lhs; rw [h]
      rw [Int.neg_tmod]; rfl
end Go.Proofs.YtaakhhnlmldegaaDoor
