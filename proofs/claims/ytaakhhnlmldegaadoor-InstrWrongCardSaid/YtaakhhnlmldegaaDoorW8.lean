
/- value of the reference, walked. -/
import Derived.Test.YtaakhhnlmldegaaDoorW7
namespace Go.Proofs.YtaakhhnlmldegaaDoor
open Go.RowKit
set_option linter.unusedVariables false
set_option linter.unusedSimpArgs false

/-- Which digit c is; 16 if it is none. -/
def hit (c : UInt8) : Nat := if isHexB c then hv c else 16
theorem hit_dig (d : Nat) (h : d < 16) : hit (dig d) = d := by revert d; decide
theorem dig_hit (c : UInt8) (h : hit c < 16) : dig (hit c) = c := by
  unfold hit at h ⊢
  split at h
  · rename_i hc
    rw [if_pos hc]
    unfold isHexB at hc
    have e : c = UInt8.ofNat c.toNat := by simp
    unfold dig hv
    simp only [Bool.or_eq_true, Bool.and_eq_true, decide_eq_true_eq] at hc
    split
    · rename_i h1; split
      · rw [e]; congr 1; simp; omega
      · omega
    · rename_i h1; split
      · omega
      · rw [e]; congr 1; simp; omega
  · omega
def stepR (b : Nat) (c : UInt8) (t n : Nat) : Nat := if hit c < n then b * t + hit c else t
theorem stepR_hit (b : Nat) (c : UInt8) (t n : Nat) (hn : n < 16) (h : dig n = c) : stepR b c t n = t ∧ stepR b c t (n + 1) = b * t + n := by
  have : hit c = n := by rw [← h, hit_dig n hn]
  unfold stepR
  rw [this, if_neg (by omega), if_pos (by omega)]
  exact ⟨rfl, rfl⟩
theorem stepR_miss (b : Nat) (c : UInt8) (t n : Nat) (hn : n < 16) (h : ¬ dig n = c) : stepR b c t (n + 1) = stepR b c t n := by
  have : ¬ hit c = n := fun h' => h (by rw [← h']; exact dig_hit c (by omega))
  unfold stepR
  by_cases h2 : hit c < n
  · rw [if_pos h2, if_pos (by omega)]
  · rw [if_neg h2, if_neg (by omega)]
def valR (b : Nat) (l : List UInt8) : Nat := l.foldl (fun t c => stepR b c t b) 0
theorem valR_snoc (b : Nat) (l : List UInt8) (c : UInt8) : valR b (l ++ [c]) = stepR b c (valR b l) b := by simp [valR]
theorem stepR_le (b : Nat) (c : UInt8) (t n : Nat) (hb : b ≤ 16) (hn : n ≤ 16) : stepR b c t n ≤ 16 * t + 15 := by
  unfold stepR
  split
  · have := Nat.mul_le_mul_right t hb; omega
  · omega
theorem valR_le (b : Nat) (hb : b ≤ 16) (l : List UInt8) : ∀ t, l.foldl (fun t c => stepR b c t b) t + 1 ≤ 16 ^ l.length * (t + 1) := by
  induction l with
  | nil => simp
  | cons c l ih =>
    intro t
    rw [List.foldl_cons, List.length_cons, Nat.pow_succ]
    have h1 := ih (stepR b c t b)
    have h2 := stepR_le b c t b hb hb
    have h3 : 16 ^ l.length * (stepR b c t b + 1) ≤ 16 ^ l.length * (16 * (t + 1)) := Nat.mul_le_mul_left _ (by omega)
    rw [← Nat.mul_assoc] at h3
    omega
theorem valR_lt (b : Nat) (hb : b ≤ 16) (l : List UInt8) : valR b l < 16 ^ l.length := by
  have := valR_le b hb l 0
  unfold valR
  omega
theorem eq_toNat (c d : UInt8) : (((c.toNat : Nat) : Int) == ((d.toNat : Nat) : Int)) = decide (c = d) := by
  rw [Bool.eq_iff_iff, beq_iff_eq, decide_eq_true_iff, Int.ofNat_inj, UInt8.toNat_inj]

end Go.Proofs.YtaakhhnlmldegaaDoor
