
/- digits and value of the reference, walked. -/
import Derived.Test.YtaakhhnlmldegaaDoorW6
namespace Go.Proofs.YtaakhhnlmldegaaDoor
open Go.RowKit
set_option linter.unusedVariables false
set_option linter.unusedSimpArgs false

def strB (l : List UInt8) : ByteArray := ⟨l.toArray⟩

theorem strB_cons (d : Nat) (h : d < 16) (l : List UInt8) :
    (({ data := #[48, 49, 50, 51, 52, 53, 54, 55, 56, 57, 65, 66, 67, 68, 69, 70] } : ByteArray).extract d (d + 1)) ++ strB l = strB (dig d :: l) := by
  have e : (({ data := #[48, 49, 50, 51, 52, 53, 54, 55, 56, 57, 65, 66, 67, 68, 69, 70] } : ByteArray).extract d (d + 1)) = strB [dig d] := by
    revert d; decide
  rw [e]
  apply ByteArray.ext
  rw [ByteArray.data_append]; simp [strB]

theorem pow_base (b k t : Nat) (hb : b = 10 ∨ b = 16) (ht : t < 4294967296) (h : 0 < t / b ^ k) : k < 40 := by
  have h1 : b ^ k ≤ t := by
    rcases Nat.lt_or_ge t (b ^ k) with h2 | h2
    · rw [Nat.div_eq_of_lt h2] at h; omega
    · exact h2
  have h2 : 2 ^ k ≤ b ^ k := Nat.pow_le_pow_left (by omega) k
  rcases Nat.lt_or_ge k 40 with h3 | h3
  · exact h3
  · have h4 : 2 ^ 40 ≤ 2 ^ k := Nat.pow_le_pow_right (by decide) h3
    omega

end Go.Proofs.YtaakhhnlmldegaaDoor
