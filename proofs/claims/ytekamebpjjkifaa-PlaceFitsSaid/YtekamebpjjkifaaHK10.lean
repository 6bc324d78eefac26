/- Texts that belong together, joined: what each one holds is told ahead of it. -/
import Derived.Test.YtekamebpjjkifaaHK4
/- The reference's words on expressions of a kernel, walked: own, room, Valid. -/
namespace Go.Proofs.Ytekamebpjjkifaa
open Go.RowKit
set_option linter.unusedSimpArgs false
set_option linter.unusedVariables false

theorem rPrim (k : Nat) (w : World) : Calls Try.prog 28 #[.int .u8 k] w (RetE (.bool (primB k)) w) := by
  by_cases k1 : k = 1
  · subst k1
    go_enter Try.func28, Try.ntmps28
    go_wp2
    go_ret
    exact ⟨rfl, rfl⟩
  by_cases k2 : k = 2
  · subst k2
    go_enter Try.func28, Try.ntmps28
    go_wp2
    go_ret
    exact ⟨rfl, rfl⟩
  have e1 : ((k : Int) == 1) = false := by simp; omega
  have e2 : ((k : Int) == 2) = false := by simp; omega
  by_cases k3 : k = 3
  · subst k3
    go_enter Try.func28, Try.ntmps28
    go_wp2
    go_ret
    exact ⟨rfl, rfl⟩
  have e3 : ((k : Int) == 3) = false := by simp; omega
  have HR := Lib.hid (show primB k = false by simp [primB]; omega)
  clear k1 k2 k3
  go_enter Try.func28, Try.ntmps28
  go_wp2
  go_ret
  exact ⟨by rw [HR.out]; rfl, rfl⟩
set_option maxRecDepth 100000 in
set_option maxHeartbeats 4000000 in
theorem rOwn16 (e : KE) (h : e.kind ≤ 255) (w : World) : Calls Try.prog 86 #[.agg e.cells] w (RetV (.bool (fieldsB e)) w) := by
  obtain ⟨k, o, t, n, v, A, c, l⟩ := e
  obtain ⟨m, hm⟩ : ∃ m, l.length = m := ⟨_, rfl⟩
  simp only [KE.cells] at h ⊢
  have HT := Lib.hid (fun w1 => rPrim t w1)
  have HM := Lib.hid hm
  rw [hm]
  clear hm
  by_cases k1 : k = 1
  · subst k1
    go_enter Try.func86, Try.ntmps86
    go_wp2
    all_goals (go_ret; exact ⟨by refine ret_bool rfl ?_; simp only [fieldsB, HM.out]; rw [Bool.eq_iff_iff]; simp_all <;> omega, two_blocks _ _ _ _ _⟩)
  by_cases k2 : k = 2
  · subst k2
    go_enter Try.func86, Try.ntmps86
    go_wp2
    all_goals (go_ret; exact ⟨by refine ret_bool rfl ?_; simp only [fieldsB, HM.out]; rw [Bool.eq_iff_iff]; simp_all <;> omega, two_blocks _ _ _ _ _⟩)
  by_cases k3 : k = 3
  · subst k3
    go_enter Try.func86, Try.ntmps86
    go_wp2
    all_goals (go_ret; exact ⟨by refine ret_bool rfl ?_; simp only [fieldsB, HM.out]; rw [Bool.eq_iff_iff]; simp_all <;> omega, two_blocks _ _ _ _ _⟩)
  by_cases k4 : k = 4
  · subst k4
    go_enter Try.func86, Try.ntmps86
    go_wp2
    all_goals (go_ret; exact ⟨by refine ret_bool rfl ?_; simp only [fieldsB, HM.out]; rw [Bool.eq_iff_iff]; simp_all <;> omega, two_blocks _ _ _ _ _⟩)
  by_cases k5 : k = 5
  · subst k5
    go_enter Try.func86, Try.ntmps86
    go_wp2
    all_goals (go_ret; exact ⟨by refine ret_bool rfl ?_; simp only [fieldsB, HM.out]; rw [Bool.eq_iff_iff]; simp_all <;> omega, two_blocks _ _ _ _ _⟩)
  by_cases k6 : k = 6
  · subst k6
    go_enter Try.func86, Try.ntmps86
    have hp : primB t = decide (1 ≤ t ∧ t ≤ 3) := rfl
    have HP := Lib.hid hp
    clear hp
    generalize primB t = pt at *
    cases pt
    all_goals
      go_wp2_with (go_at_call 28; (with_reducible refine (HT.out _).mono ?_); rintro e w1 ⟨rfl, rfl⟩)
      all_goals (go_ret; exact ⟨by have hp := HP.out; refine ret_bool rfl ?_; simp only [fieldsB, HM.out]; rw [Bool.eq_iff_iff]; simp_all <;> omega, two_blocks _ _ _ _ _⟩)
  have e1 : ((k : Int) == 1) = false := by simp; omega
  have e2 : ((k : Int) == 2) = false := by simp; omega
  have e3 : ((k : Int) == 3) = false := by simp; omega
  have e4 : ((k : Int) == 4) = false := by simp; omega
  have e5 : ((k : Int) == 5) = false := by simp; omega
  have e6 : ((k : Int) == 6) = false := by simp; omega
  have HF : Hid (fieldsB ⟨k, o, t, n, v, A, c, l⟩ = false) := Lib.hid (by simp only [fieldsB])
  clear k1 k2 k3 k4 k5 k6
  go_enter Try.func86, Try.ntmps86
  go_wp2
  all_goals (go_ret; exact ⟨by rw [HF.out]; rfl, two_blocks _ _ _ _ _⟩)
end Go.Proofs.Ytekamebpjjkifaa
