/- The reference's arithmetic, walked: each function has the answer of the program's function. -/
import Derived.Test.YtkmdigejohcnlaaDoorW2
namespace Go.Proofs.YtkmdigejohcnlaaDoor
open Go.RowKit
set_option linter.unusedVariables false
set_option linter.unusedSimpArgs false

theorem wrap32_is (t : Int) : is32 (wrap32 t) := by unfold is32 wrap32; omega
theorem rAdd (a b : Int) (w : World) (ha : is32 a) (hb : is32 b) : Calls Tryd.prog 42 #[.int .i32 a, .int .i32 b] w (RetQ (addF a b) w) := by
  obtain ⟨a0, a1⟩ := ha
  obtain ⟨b0, b1⟩ := hb
  go_enter Tryd.func42, Tryd.ntmps42
  go_wp2_with (first
    | (go_at_call 49; refine (rWrap _ _ (by omega) (by omega)).mono ?_; rintro e w' ⟨rfl, rfl⟩)
    | (go_at_call 57; refine (rFits _ _).mono ?_; rintro e w' ⟨rfl, rfl⟩))
  go_ret2
  exact ⟨rv_eq rfl (fits_wrap _), rfl⟩
theorem rSub (a b : Int) (w : World) (ha : is32 a) (hb : is32 b) : Calls Tryd.prog 44 #[.int .i32 a, .int .i32 b] w (RetQ (subF a b) w) := by
  obtain ⟨a0, a1⟩ := ha
  obtain ⟨b0, b1⟩ := hb
  go_enter Tryd.func44, Tryd.ntmps44
  go_wp2_with (first
    | (go_at_call 49; refine (rWrap _ _ (by omega) (by omega)).mono ?_; rintro e w' ⟨rfl, rfl⟩)
    | (go_at_call 57; refine (rFits _ _).mono ?_; rintro e w' ⟨rfl, rfl⟩))
  go_ret2
  exact ⟨rv_eq rfl (fits_wrap _), rfl⟩
theorem rMul (a b : Int) (w : World) (ha : is32 a) (hb : is32 b) : Calls Tryd.prog 28 #[.int .i32 a, .int .i32 b] w (RetQ (mulF a b) w) := by
  obtain ⟨m0, m1⟩ := mul_bound ha hb
  obtain ⟨a0, a1⟩ := ha
  obtain ⟨b0, b1⟩ := hb
  go_enter Tryd.func28, Tryd.ntmps28
  go_wp2_with (first
    | (go_at_call 49; refine (rWrap _ _ (by omega) (by omega)).mono ?_; rintro e w' ⟨rfl, rfl⟩)
    | (go_at_call 57; refine (rFits _ _).mono ?_; rintro e w' ⟨rfl, rfl⟩))
  go_ret2
  exact ⟨rv_eq rfl (fits_wrap _), rfl⟩
theorem rAfter (a b : Int) (w : World) (ha : is32 a) (hb : is32 b) : Calls Tryd.prog 45 #[.int .i32 a, .int .i32 b] w (RetQ (.bool (decide (0 < wrap32 (a - b)))) w) := by
  go_enter Tryd.func45, Tryd.ntmps45
  go_wp2_with (go_at_call 44; refine (rSub _ _ _ ha hb).mono ?_; unfold subF rv; rintro e w' ⟨rfl, rfl⟩)
  go_ret
  exact ⟨rfl, rfl⟩
theorem rXword (a b : Int) (w : World) (ha : is32 a) (hb : is32 b) : Calls Tryd.prog 37 #[.int .i32 a, .int .i32 b] w (RetQ (.int .i32 (xwordF a b)) w) := by
  have Ha := Lib.hid ha
  have Hb := Lib.hid hb
  obtain ⟨a0, a1⟩ := ha
  obtain ⟨b0, b1⟩ := hb
  obtain ⟨ua0, ua1⟩ := u32_bounds a
  obtain ⟨ub0, ub1⟩ := u32_bounds b
  by_cases h : u32 a < u32 b
  · have e : xwordF a b = a := by simp [xwordF, h]
    rw [e]
    have HA := Lib.hid (fun w => rUns a w Ha.out)
    have HB := Lib.hid (fun w => rUns b w Hb.out)
    obtain ⟨x, hx⟩ : ∃ x, u32 a = x := ⟨_, rfl⟩
    obtain ⟨y, hy⟩ : ∃ y, u32 b = y := ⟨_, rfl⟩
    rw [hx] at HA h
    rw [hy] at HB h
    clear hx hy e
    go_enter Tryd.func37, Tryd.ntmps37
    have tok : True := trivial
    go_wp2_with (first
      | (go_at_call 48; have _t := tok; refine (HA.out _).mono ?_; clear tok; rintro e w' ⟨rfl, rfl⟩)
      | (go_at_call 48; refine (HB.out _).mono ?_; rintro e w' ⟨rfl, rfl⟩))
    go_ret
    exact ⟨rfl, rfl⟩
  · have e : xwordF a b = wrap32 (a - 2 * b) := by simp [xwordF, h]
    rw [e]
    have HA := Lib.hid (fun w => rUns a w Ha.out)
    have HB := Lib.hid (fun w => rUns b w Hb.out)
    obtain ⟨x, hx⟩ : ∃ x, u32 a = x := ⟨_, rfl⟩
    obtain ⟨y, hy⟩ : ∃ y, u32 b = y := ⟨_, rfl⟩
    rw [hx] at HA h
    rw [hy] at HB h
    clear hx hy e
    go_enter Tryd.func37, Tryd.ntmps37
    have tok : True := trivial
    go_wp2_with (first
      | (go_at_call 48; have _t := tok; refine (HA.out _).mono ?_; clear tok; rintro e w' ⟨rfl, rfl⟩)
      | (go_at_call 48; refine (HB.out _).mono ?_; rintro e w' ⟨rfl, rfl⟩)
      | (go_at_call 49; refine (rWrap _ _ (by omega) (by omega)).mono ?_; rintro e w' ⟨rfl, rfl⟩))
    go_ret
    exact ⟨rfl, rfl⟩
theorem rCword (a b : Int) (w : World) (ha : is32 a) (hb : is32 b) : Calls Tryd.prog 32 #[.int .i32 a, .int .i32 b] w (RetQ (cwordF a b) w) := by
  obtain ⟨a0, a1⟩ := ha
  obtain ⟨b0, b1⟩ := hb
  by_cases h : b ≤ a
  · have e : cwordF a b = rv a true := by simp [cwordF, h]
    rw [e]
    go_enter Tryd.func32, Tryd.ntmps32
    go_wp2_with (go_at_call 49; refine (rWrap _ _ (by omega) (by omega)).mono ?_; rintro e w' ⟨rfl, rfl⟩)
    go_ret2
    exact ⟨rv_eq rfl rfl, rfl⟩
  · have e : cwordF a b = rv a (decide (a < wrap32 (-b))) := by simp [cwordF, h]
    rw [e]
    have h' : decide (b ≤ a) = false := by simpa using h
    go_enter Tryd.func32, Tryd.ntmps32
    go_wp2_with (go_at_call 49; refine (rWrap _ _ (by omega) (by omega)).mono ?_; rintro e w' ⟨rfl, rfl⟩)
    go_ret2
    exact ⟨rv_eq rfl (by rfl), rfl⟩
theorem rCsub0 (a b : Int) (w : World) (ha : is32 a) (hb : is32 b) : Calls Tryd.prog 34 #[.int .i32 a, .int .i32 b] w (RetQ (rv a (decide (u32 b ≤ u32 a))) w) := by
  have HA := Lib.hid (fun w => rUns a w ha)
  have HB := Lib.hid (fun w => rUns b w hb)
  obtain ⟨x, hx⟩ : ∃ x, u32 a = x := ⟨_, rfl⟩
  obtain ⟨y, hy⟩ : ∃ y, u32 b = y := ⟨_, rfl⟩
  rw [hx] at HA ⊢
  rw [hy] at HB ⊢
  clear hx hy
  go_enter Tryd.func34, Tryd.ntmps34
  have tok : True := trivial
  go_wp2_with (first
    | (go_at_call 48; have _t := tok; refine (HA.out _).mono ?_; clear tok; rintro e w' ⟨rfl, rfl⟩)
    | (go_at_call 48; refine (HB.out _).mono ?_; rintro e w' ⟨rfl, rfl⟩))
  go_ret2
  exact ⟨rv_eq rfl rfl, rfl⟩
theorem rCcnt1 (a b : Int) (w : World) (ha : is32 a) (hb : is32 b) : Calls Tryd.prog 36 #[.int .i32 a, .int .i32 b] w (RetQ (rv a (a == 0 || decide (u32 b < u32 a))) w) := by
  have HA := Lib.hid (fun w => rUns a w ha)
  have HB := Lib.hid (fun w => rUns b w hb)
  obtain ⟨x, hx⟩ : ∃ x, u32 a = x := ⟨_, rfl⟩
  obtain ⟨y, hy⟩ : ∃ y, u32 b = y := ⟨_, rfl⟩
  rw [hx] at HA ⊢
  rw [hy] at HB ⊢
  clear hx hy
  cases h : (a == 0)
  · go_enter Tryd.func36, Tryd.ntmps36
    have tok : True := trivial
    go_wp2_with (first
      | (go_at_call 48; have _t := tok; refine (HA.out _).mono ?_; clear tok; rintro e w' ⟨rfl, rfl⟩)
      | (go_at_call 48; refine (HB.out _).mono ?_; rintro e w' ⟨rfl, rfl⟩))
    go_ret2
    exact ⟨rv_eq rfl (by simp), rfl⟩
  · go_enter Tryd.func36, Tryd.ntmps36
    go_wp2
    go_ret2
    exact ⟨rv_eq rfl rfl, rfl⟩
theorem tdiv_abs {a b : Int} : a.tdiv b = if (a < 0) = (b < 0) then ((a.natAbs / b.natAbs : Nat) : Int) else -((a.natAbs / b.natAbs : Nat) : Int) := by
  rcases Int.natAbs_eq a with h | h <;> rcases Int.natAbs_eq b with h' | h'
  · have h1 : ¬ a < 0 := by omega
    have h2 : ¬ b < 0 := by omega
    rw [if_pos (by simp [h1, h2])]
    conv => lhs; rw [h, h']
    rfl
  · by_cases hb : b = 0
    · subst hb; simp
    · have h1 : ¬ a < 0 := by omega
      have h2 : b < 0 := by omega
      rw [if_neg (by simp [h1, h2])]
      conv => lhs; rw [h, h']
      rw [Int.tdiv_neg]; rfl
  · by_cases ha : a = 0
    · subst ha; simp
    · have h1 : a < 0 := by omega
      have h2 : ¬ b < 0 := by omega
      rw [if_neg (by simp [h1, h2])]
      conv => lhs; rw [h, h']
      rw [Int.neg_tdiv]; rfl
  · by_cases ha : a = 0
    · subst ha; simp
    · by_cases hb : b = 0
      · subst hb; simp
      · have h1 : a < 0 := by omega
        have h2 : b < 0 := by omega
        rw [if_pos (by simp [h1, h2])]
        conv => lhs; rw [h, h']
        rw [Int.tdiv_neg, Int.neg_tdiv, Int.neg_neg]; rfl
theorem tmod_abs {a b : Int} : a.tmod b = if a < 0 then -((a.natAbs % b.natAbs : Nat) : Int) else ((a.natAbs % b.natAbs : Nat) : Int) := by
  have hb : a.tmod b = a.tmod (b.natAbs : Int) := by
    rcases Int.natAbs_eq b with h' | h'
    · conv => lhs; rw [h']
    · conv => lhs; rw [h', Int.tmod_neg]
  rw [hb]
  rcases Int.natAbs_eq a with h | h
  · have h1 : ¬ a < 0 := by omega
    rw [if_neg h1]
    conv => lhs; rw [h]
    rfl
  · by_cases ha : a = 0
    · subst ha; simp
    · rw [if_pos (by omega)]
      conv => lhs; rw [h]
      rw [Int.neg_tmod]; rfl
end Go.Proofs.YtkmdigejohcnlaaDoor
