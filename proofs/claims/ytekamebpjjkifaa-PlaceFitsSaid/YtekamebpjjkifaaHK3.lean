/- Texts that belong together, joined: what each one holds is told ahead of it. -/
import Derived.Test.YtekamebpjjkifaaHK2
/- Small functions on kernels, walked: primitive, fields of an expression. -/
namespace Go.Proofs.Ytekamebpjjkifaa
open Go.RowKit
set_option linter.unusedSimpArgs false
set_option linter.unusedVariables false

theorem primB_lo {k : Nat} (h : k < 1) : primB k = false := by simp [primB]; omega
theorem primB_hi {k : Nat} (h : 3 < k) : primB k = false := by simp [primB]; omega
theorem primB_in {k : Nat} (h : 1 ≤ k) (h' : k ≤ 3) : primB k = true := by simp [primB]; omega
/-- A value, and the world as it was. -/
def RetE (v : Value) (w : World) (e : Ending) (w' : World) : Prop := e = .returned v ∧ w = w'
theorem kPrim (k : Nat) (w : World) : Calls Try.prog 34 #[.int .u8 k] w (RetE (.bool (primB k)) w) := by
  rcases Nat.lt_or_ge k 1 with h | h
  · have hI : ¬ (1 : Int) ≤ k := by omega
    have HR := Lib.hid (primB_lo h)
    clear h
    go_enter Try.func34, Try.ntmps34
    go_wp2
    go_ret
    exact ⟨by rw [HR.out]; rfl, rfl⟩
  · have hI : (1 : Int) ≤ k := by omega
    rcases Nat.lt_or_ge 3 k with h3 | h3
    · have h3I : ¬ (k : Int) ≤ 3 := by omega
      have HR := Lib.hid (primB_hi h3)
      clear h h3
      go_enter Try.func34, Try.ntmps34
      go_wp2
      go_ret
      exact ⟨by rw [HR.out]; rfl, rfl⟩
    · have h3I : (k : Int) ≤ 3 := by omega
      have HR := Lib.hid (primB_in h h3)
      clear h h3
      go_enter Try.func34, Try.ntmps34
      go_wp2
      go_ret
      exact ⟨by rw [HR.out]; rfl, rfl⟩
theorem two_blocks (w : World) (x y : Array Value) (t u : TypeId) : Below w.heap.size w ((w.alloc (.cells x t)).alloc (.cells y u)) := ((Below.refl _ _).alloc (Nat.le_refl _) _).alloc (by simp) _
theorem ret_bool {a b : Bool} {v : Value} (h : v = .bool a) (h2 : a = b) : Ending.returned v = .returned (.bool b) := by rw [h, h2]
set_option maxRecDepth 100000 in
set_option maxHeartbeats 4000000 in
theorem kFields (e : KE) (h : e.kind ≤ 255) (w : World) : Calls Try.prog 88 #[.agg e.cells] w (RetV (.bool (fieldsB e)) w) := by
  obtain ⟨k, o, t, n, v, A, c, l⟩ := e
  obtain ⟨m, hm⟩ : ∃ m, l.length = m := ⟨_, rfl⟩
  simp only [KE.cells] at h ⊢
  have HT := Lib.hid (fun w1 => kPrim t w1)
  have HM := Lib.hid hm
  rw [hm]
  clear hm
  by_cases k1 : k = 1
  · subst k1
    go_enter Try.func88, Try.ntmps88
    go_wp2
    all_goals (go_ret; exact ⟨by refine ret_bool rfl ?_; simp only [fieldsB, HM.out]; rw [Bool.eq_iff_iff]; simp_all <;> omega, two_blocks _ _ _ _ _⟩)
  by_cases k2 : k = 2
  · subst k2
    go_enter Try.func88, Try.ntmps88
    go_wp2
    all_goals (go_ret; exact ⟨by refine ret_bool rfl ?_; simp only [fieldsB, HM.out]; rw [Bool.eq_iff_iff]; simp_all <;> omega, two_blocks _ _ _ _ _⟩)
  by_cases k3 : k = 3
  · subst k3
    go_enter Try.func88, Try.ntmps88
    go_wp2
    all_goals (go_ret; exact ⟨by refine ret_bool rfl ?_; simp only [fieldsB, HM.out]; rw [Bool.eq_iff_iff]; simp_all <;> omega, two_blocks _ _ _ _ _⟩)
  by_cases k4 : k = 4
  · subst k4
    go_enter Try.func88, Try.ntmps88
    go_wp2
    all_goals (go_ret; exact ⟨by refine ret_bool rfl ?_; simp only [fieldsB, HM.out]; rw [Bool.eq_iff_iff]; simp_all <;> omega, two_blocks _ _ _ _ _⟩)
  by_cases k5 : k = 5
  · subst k5
    go_enter Try.func88, Try.ntmps88
    go_wp2
    all_goals (go_ret; exact ⟨by refine ret_bool rfl ?_; simp only [fieldsB, HM.out]; rw [Bool.eq_iff_iff]; simp_all <;> omega, two_blocks _ _ _ _ _⟩)
  by_cases k6 : k = 6
  · subst k6
    go_enter Try.func88, Try.ntmps88
    have hp : primB t = decide (1 ≤ t ∧ t ≤ 3) := rfl
    have HP := Lib.hid hp
    clear hp
    generalize primB t = pt at *
    cases pt
    all_goals
      go_wp2_with (go_at_call 34; (with_reducible refine (HT.out _).mono ?_); rintro e w1 ⟨rfl, rfl⟩)
      all_goals (go_ret; exact ⟨by have hp := HP.out; refine ret_bool rfl ?_; simp only [fieldsB, HM.out]; rw [Bool.eq_iff_iff]; simp_all <;> omega, two_blocks _ _ _ _ _⟩)
  have e1 : ((k : Int) == 1) = false := by simp; omega
  have e2 : ((k : Int) == 2) = false := by simp; omega
  have e3 : ((k : Int) == 3) = false := by simp; omega
  have e4 : ((k : Int) == 4) = false := by simp; omega
  have e5 : ((k : Int) == 5) = false := by simp; omega
  have e6 : ((k : Int) == 6) = false := by simp; omega
  have HF : Hid (fieldsB ⟨k, o, t, n, v, A, c, l⟩ = false) := Lib.hid (by simp only [fieldsB])
  clear k1 k2 k3 k4 k5 k6
  go_enter Try.func88, Try.ntmps88
  go_wp2
  all_goals (go_ret; exact ⟨by rw [HF.out]; rfl, two_blocks _ _ _ _ _⟩)
end Go.Proofs.Ytekamebpjjkifaa
