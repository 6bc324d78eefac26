
/- Shifts, and the integer functions of the reference, walked: each has the answer of the program's function. -/
import Derived.Test.YtaakhhnlmldegaaDoorW1
namespace Go.Proofs.YtaakhhnlmldegaaDoor
open Go.RowKit
set_option linter.unusedVariables false
set_option linter.unusedSimpArgs false

def sh (n : Int) : Nat := min (u32 n).toNat 32
def shlF (a n : Int) : Int := wrap32 (a * 2 ^ sh n)
def shrF (a n : Int) : Int := wrap32 (u32 a / 2 ^ sh n)
theorem wrap32_mod (t m : Int) : wrap32 (t + 4294967296 * m) = wrap32 t := by unfold wrap32; omega
theorem wrap32_u64 (t : Int) : wrap32 (IntKind.u64.wrap t) = wrap32 t := by
  have e : IntKind.u64.wrap t = t % 18446744073709551616 := by simp [IntKind.wrap, IntKind.signed, IntKind.bits]
  rw [e]; unfold wrap32; omega
theorem u32_mul (a p : Int) : wrap32 (u32 a * p) = wrap32 (a * p) := by
  have e : a = u32 a + 4294967296 * (a / 4294967296) := by unfold u32; omega
  have e2 : a * p = u32 a * p + 4294967296 * ((a / 4294967296) * p) := by
    conv => lhs; rw [e]
    rw [Int.add_mul, Int.mul_assoc]
  rw [e2, wrap32_mod]
theorem u32_bounds (a : Int) : 0 ≤ u32 a ∧ u32 a < 4294967296 := by unfold u32; omega
theorem u64w_bounds (t : Int) : 0 ≤ IntKind.u64.wrap t ∧ IntKind.u64.wrap t ≤ 18446744073709551615 := by
  have e2 : IntKind.u64.wrap t = t % 18446744073709551616 := by simp [IntKind.wrap, IntKind.signed, IntKind.bits]
  rw [e2]; omega
theorem tmod_pow (a : Int) : a.tmod 4294967296 = if 0 ≤ a then a % 4294967296 else -((-a) % 4294967296) := by
  split
  · rename_i h; exact Int.tmod_eq_emod_of_nonneg h
  · rename_i h
    have : a = -(-a) := by omega
    conv => lhs; rw [this]
    rw [Int.neg_tmod, Int.tmod_eq_emod_of_nonneg (by omega)]
def fits (t : Int) : Bool := decide (-2147483648 ≤ t) && decide (t < 2147483648)
theorem fits_wrap (t : Int) : (!fits t) = (wrap32 t != t) := by
  unfold fits
  rw [Bool.eq_iff_iff]
  simp only [Bool.not_eq_true', Bool.and_eq_false_iff, decide_eq_false_iff_not, bne_iff_ne, ne_eq]
  unfold wrap32; omega
end Go.Proofs.YtaakhhnlmldegaaDoor
