
/- The reference's division and shifts, walked. -/
import Derived.Test.YtaakhhnlmldegaaDoorW3
namespace Go.Proofs.YtaakhhnlmldegaaDoor
open Go.RowKit
set_option linter.unusedVariables false
set_option linter.unusedSimpArgs false

/-- The quotient by absolute values. -/
def quoA (a b : Int) : Int := if (a < 0) = (b < 0) then ((a.natAbs / b.natAbs : Nat) : Int) else -((a.natAbs / b.natAbs : Nat) : Int)

theorem quoA_bounds (a b : Int) (ha : is32 a) : a.natAbs / b.natAbs ≤ 2147483648 ∧ -2147483648 ≤ quoA a b ∧ quoA a b ≤ 2147483648 := by
  obtain ⟨a0, a1⟩ := ha
  have hle := Nat.div_le_self a.natAbs b.natAbs
  have : a.natAbs / b.natAbs ≤ 2147483648 := by omega
  unfold quoA
  generalize a.natAbs / b.natAbs = q at this
  refine ⟨this, ?_, ?_⟩ <;> split <;> omega

theorem divF_quoA (a b : Int) (ha : is32 a) (hb : is32 b) (h0 : ¬ b = 0) :
    divF a b = if fits (quoA a b) = true then rv (quoA a b) false else rv 0 true := by
  have ht : a.tdiv b = quoA a b := by rw [tdiv_abs]; unfold quoA; split <;> simp_all
  obtain ⟨-, l, u⟩ := quoA_bounds a b ha
  by_cases h1 : a = -2147483648 ∧ b = -1
  · rw [divF, if_pos (.inr h1)]
    obtain ⟨rfl, rfl⟩ := h1
    rfl
  · rw [divF, if_neg (fun h => h.elim h0 h1), ht]
    have : ¬ quoA a b = 2147483648 := fun h => by
      obtain ⟨a0, a1⟩ := ha
      obtain ⟨b0, b1⟩ := hb
      unfold quoA at h
      split at h
      · rename_i hs
        have hq : a.natAbs / b.natAbs = 2147483648 := by
          generalize a.natAbs / b.natAbs = q at h
          omega
        have hle := Nat.div_le_self a.natAbs b.natAbs
        have hn : b.natAbs = 1 := by
          rcases Nat.lt_or_ge 1 b.natAbs with h3 | h3
          · have := Nat.div_lt_self (n := a.natAbs) (k := b.natAbs) (by omega) h3; omega
          · omega
        have h3 : ¬ (b = 1) := fun h => by
          subst h
          have h4 : ¬ a < 0 := by simpa using hs
          omega
        omega
      · generalize a.natAbs / b.natAbs = q at h
        omega
    rw [if_pos (by simp [fits]; omega)]

/-- One more place to the left. -/
theorem shl_step (a : Int) (k : Nat) : wrap32 (2 * wrap32 (a * 2 ^ k)) = wrap32 (a * 2 ^ (k + 1)) := by
  rw [Int.pow_succ, ← Int.mul_assoc]
  generalize a * 2 ^ k = x
  unfold wrap32; omega
theorem shr_step (z : Int) (k : Nat) (h : 0 ≤ z) : z / 2 ^ k / 2 = z / 2 ^ (k + 1) := by
  rw [Int.pow_succ, Int.ediv_ediv_of_nonneg (Int.pow_nonneg (by decide))]
theorem sh_lt {n : Int} {k : Nat} (h1 : (k : Int) < u32 n) (h2 : k < 32) : k < sh n := by unfold sh; omega
theorem sh_ge {n : Int} {k : Nat} (hk : k ≤ sh n) (h1 : ¬ ((k : Int) < u32 n ∧ k < 32)) : k = sh n := by unfold sh at *; omega

end Go.Proofs.YtaakhhnlmldegaaDoor
