/- Texts that belong together, joined: what each one holds is told ahead of it. -/
import Derived.Test.YtbefmlioampgcaaGreatDoorHDB
import Derived.Test.YtbefmlioampgcaaGreatDoorHK12
import Derived.Test.YtbefmlioampgcaaGreatDoorHK24
set_option linter.unusedVariables false
set_option linter.unusedSimpArgs false
/- GenexpRegisters, walked. -/
namespace Go.Proofs.YtbefmlioampgcaaGreatDoor
open Go.RowKit
set_option linter.unusedVariables false
set_option linter.unusedSimpArgs false

theorem errC_valid {g : EmL} {e : KE} {temp : Int} (h : errC g e temp = 0) : validE e = true := by
  unfold errC at h
  split at h
  · cases h
  · rename_i hc
    simp only [not_or] at hc
    simpa using hc.1
theorem code_fn (env : CEnv) (e : KE) : ∀ (t : Int) (n : Nat), ∀ x ∈ (codeE env e t n).1, x.fn ≤ 255 := by
  induction e using KE.ind with
  | h e ih =>
    intro t n
    have hO : ∀ x ∈ operL e.oper, x.fn ≤ 255 := fun x hx => by have := (oper_mem hx).2.2.2; omega
    match hl : e.l with
    | [] =>
      rw [codeE_0 env hl]
      split <;> simp [lnF]
    | [a] =>
      rw [codeE_1 env hl]
      intro x hx
      rcases List.mem_append.1 hx with hx | hx
      · exact ih a (by rw [hl]; simp) t n x hx
      · have := (after_mem hx).2.2.2; omega
    | a :: b :: r =>
      have hia := ih a (by rw [hl]; simp)
      have hib := ih b (by rw [hl]; simp)
      rw [codeE_2 env hl]
      by_cases h20 : e.oper = 20 ∨ e.oper = 21
      · rw [if_pos h20]
        by_cases h21 : e.oper = 21
        · simp only [if_pos h21]
          intro x hx
          simp only [List.mem_append, List.mem_cons, List.not_mem_nil, or_false] at hx
          rcases hx with hx | rfl | rfl | hx | rfl | rfl
          · exact hia _ _ x hx
          · simp [lnF]
          · simp [lnJ]
          · exact hib _ _ x hx
          · simp [lnF]
          · simp
        · simp only [if_neg h21]
          intro x hx
          simp only [List.mem_append, List.mem_cons, List.not_mem_nil, or_false] at hx
          rcases hx with hx | rfl | hx | rfl
          · exact hia _ _ x hx
          · simp [lnJ]
          · exact hib _ _ x hx
          · simp
      · rw [if_neg h20]
        by_cases h33 : regsE a = 3 ∧ regsE b = 3
        · rw [if_pos h33]
          simp only
          intro x hx
          simp only [List.mem_append, List.mem_cons, List.not_mem_nil, or_false] at hx
          rcases hx with hx | rfl | hx | rfl | hx
          · exact hib _ _ x hx
          · simp [lnF]
          · exact hia _ _ x hx
          · simp [lnF]
          · exact hO x hx
        · rw [if_neg h33]
          by_cases hlt : regsE a < regsE b
          · rw [if_pos hlt]
            simp only
            intro x hx
            simp only [List.mem_append, List.mem_cons, List.not_mem_nil, or_false] at hx
            rcases hx with hx | hx | rfl | hx
            · exact hib _ _ x hx
            · exact hia _ _ x hx
            · simp [lnO, lnF]
            · exact hO x hx
          · rw [if_neg hlt]
            simp only
            intro x hx
            simp only [List.mem_append] at hx
            rcases hx with hx | hx | hx
            · exact hia _ _ x hx
            · exact hib _ _ x hx
            · exact hO x hx
end Go.Proofs.YtbefmlioampgcaaGreatDoor

/- GenexpTemps, walked. -/
namespace Go.Proofs.YtbefmlioampgcaaGreatDoor
open Go.RowKit
set_option linter.unusedVariables false
set_option linter.unusedSimpArgs false

theorem errC_bounds {g : EmL} {e : KE} {temp : Int} (h : errC g e temp = 0) : 0 ≤ temp ∧ temp ≤ 65535 ∧ g.label ≠ [] ∧ g.label.length ≤ 24 := by
  unfold errC at h
  split at h
  · cases h
  · rename_i hc
    simp only [not_or] at hc
    exact ⟨by omega, by omega, hc.2.2.2.2.1, by omega⟩
end Go.Proofs.YtbefmlioampgcaaGreatDoor
