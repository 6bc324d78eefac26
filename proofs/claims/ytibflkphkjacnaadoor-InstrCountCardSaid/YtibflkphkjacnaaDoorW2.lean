
/- Shifts, and the integer functions of the reference, walked: each has the answer of the program's function. -/
import Derived.Test.YtibflkphkjacnaaDoorW1
namespace Go.Proofs.YtibflkphkjacnaaDoor
open Go.RowKit
set_option linter.unusedVariables false
set_option linter.unusedSimpArgs false

def sh (n : Int) : Nat := min (u32 n).toNat 32
def shlF (a n : Int) : Int := wrap32 (a * 2 ^ sh n)
def shrF (a n : Int) : Int := wrap32 (u32 a / 2 ^ sh n)
theorem wrap32_mod (t m : Int) : wrap32 (t + 4294967296 * m) = wrap32 t := by unfold wrap32; omega
theorem wrap32_u64 (t : Int) : wrap32 (IntKind.u64.wrap t) = wrap32 t := by
  have e : IntKind.u64.wrap t = t % 18446744073709551616 := by simp [IntKind.wrap, IntKind.signed, IntKind.bits]
  rw [e]; unfold wrap32; omega
theorem u32_mul (a p : Int) : wrap32 (u32 a * p) = wrap32 (a * p) := by
  have e : a = u32 a + 4294967296 * (a / 4294967296) := by unfold u32; omega
  have e2 : a * p = u32 a * p + 4294967296 * ((a / 4294967296) * p) := by
    conv => lhs; rw [e]
    rw [Int.add_mul, Int.mul_assoc]
  rw [e2, wrap32_mod]
theorem u32_bounds (a : Int) : 0 ≤ u32 a ∧ u32 a < 4294967296 := by unfold u32; omega
theorem u64w_bounds (t : Int) : 0 ≤ IntKind.u64.wrap t ∧ IntKind.u64.wrap t ≤ 18446744073709551615 := by
  have e2 : IntKind.u64.wrap t = t % 18446744073709551616 := by simp [IntKind.wrap, IntKind.signed, IntKind.bits]
  rw [e2]; omega
theorem tmod_pow (a : Int) : a.tmod 4294967296 = if 0 ≤ a then a % 4294967296 else -((-a) % 4294967296) := by
  split
  · rename_i h; exact Int.tmod_eq_emod_of_nonneg h
  · rename_i h
    have : a = -(-a) := by omega
    conv => lhs; rw [this]
    rw [Int.neg_tmod, Int.tmod_eq_emod_of_nonneg (by omega)]
theorem rWrap (a : Int) (w : World) (a0 : -9223372036854775808 ≤ a) (a1 : a ≤ 9223372036854775807) : Calls Tryd.prog 42 #[.int .i64 a] w (RetQ (.int .i32 (wrap32 a)) w) := by
  have ht := tmod_pow a
  obtain ⟨t, hte⟩ : ∃ t, a.tmod 4294967296 = t := ⟨_, rfl⟩
  rw [hte] at ht
  have Ht := Lib.hid ht
  have htb : -4294967295 ≤ t ∧ t ≤ 4294967295 := by rw [ht]; split <;> omega
  obtain ⟨t0, t1⟩ := htb
  clear ht
  by_cases h1 : t < 0
  · by_cases h2 : 2147483648 ≤ t + 4294967296
    · go_enter Tryd.func42, Tryd.ntmps42
      go_wp2
      go_ret
      refine ⟨ri_eq ?_, rfl⟩
      rw [Ht.out] at t0 t1 h1 h2 ⊢
      unfold wrap32; split at * <;> omega
    · have h2' : ¬ (2147483648 ≤ t + 4294967296) := h2
      go_enter Tryd.func42, Tryd.ntmps42
      go_wp2
      go_ret
      refine ⟨ri_eq ?_, rfl⟩
      rw [Ht.out] at t0 t1 h1 h2 ⊢
      unfold wrap32; split at * <;> omega
  · by_cases h2 : 2147483648 ≤ t
    · go_enter Tryd.func42, Tryd.ntmps42
      go_wp2
      go_ret
      refine ⟨ri_eq ?_, rfl⟩
      rw [Ht.out] at t0 t1 h1 h2 ⊢
      unfold wrap32; split at * <;> omega
    · go_enter Tryd.func42, Tryd.ntmps42
      go_wp2
      go_ret
      refine ⟨ri_eq ?_, rfl⟩
      rw [Ht.out] at t0 t1 h1 h2 ⊢
      unfold wrap32; split at * <;> omega
def fits (t : Int) : Bool := decide (-2147483648 ≤ t) && decide (t < 2147483648)
theorem fits_wrap (t : Int) : (!fits t) = (wrap32 t != t) := by
  unfold fits
  rw [Bool.eq_iff_iff]
  simp only [Bool.not_eq_true', Bool.and_eq_false_iff, decide_eq_false_iff_not, bne_iff_ne, ne_eq]
  unfold wrap32; omega
theorem rUns (a : Int) (w : World) (ha : is32 a) : Calls Tryd.prog 34 #[.int .i32 a] w (RetQ (.int .i64 (u32 a)) w) := by
  obtain ⟨a0, a1⟩ := ha
  by_cases h : a < 0
  · go_enter Tryd.func34, Tryd.ntmps34
    go_wp2
    go_ret
    refine ⟨ri_eq ?_, rfl⟩
    unfold u32; omega
  · go_enter Tryd.func34, Tryd.ntmps34
    go_wp2
    go_ret
    refine ⟨ri_eq ?_, rfl⟩
    unfold u32; omega
theorem rsize (a : Int) (w : World) (ha : is32 a) : Calls Tryd.prog 35 #[.int .i32 a] w (RetQ (.int .i64 (a.natAbs : Int)) w) := by
  obtain ⟨a0, a1⟩ := ha
  by_cases h : a < 0
  · go_enter Tryd.func35, Tryd.ntmps35
    go_wp2
    go_ret
    refine ⟨ri_eq ?_, rfl⟩
    omega
  · go_enter Tryd.func35, Tryd.ntmps35
    go_wp2
    go_ret
    refine ⟨ri_eq ?_, rfl⟩
    omega
end Go.Proofs.YtibflkphkjacnaaDoor
