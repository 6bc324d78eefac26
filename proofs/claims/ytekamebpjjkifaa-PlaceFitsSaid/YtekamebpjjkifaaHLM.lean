/- Placings that are made are few. -/
import Derived.Test.YtekamebpjjkifaaHK49
namespace Go.Proofs.Ytekamebpjjkifaa
open Go.RowKit Go.Maps
set_option linter.unusedSimpArgs false
set_option linter.unusedVariables false

theorem makeN_small {k : KK} {t : TN} (h : (makeQ k t).1 = 0) : (makeQ k t).2.length ≤ 64 := by
  unfold makeQ at h ⊢
  split at h
  · rename_i hm
    rw [if_pos hm]
    split at h
    · rename_i h0
      rw [if_pos h0]
      split at h
      · rename_i d hd
        simp only [hd]
        rw [makeN_len hd]
        exact between_short k
      · cases h
    · rename_i h0
      exact absurd h h0
  · cases h
theorem make_short (k : KK) (t : TN) : (makeQ k t).2.length ≤ 64 := by
  by_cases h : (makeQ k t).1 = 0
  · exact makeN_small h
  · have : (makeQ k t).2 = [] := by
      unfold makeQ at h ⊢
      split
      · rename_i hm
        rw [if_pos hm] at h
        split
        · rename_i h0
          rw [if_pos h0] at h
          split
          · rename_i d hd
            rw [hd] at h
            simp at h
          · rfl
        · rfl
      · rfl
    rw [this]
    simp
end Go.Proofs.Ytekamebpjjkifaa
