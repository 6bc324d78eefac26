/- The integer functions of layer 1 and of its reference, walked. -/
import Derived.Test.YtkmdigejohcnlaaDoorBase
import Derived.Test.YtkmdigejohcnlaaDoorQT
namespace Go.Proofs.YtkmdigejohcnlaaDoor
open Go.RowKit
set_option linter.unusedVariables false
set_option linter.unusedSimpArgs false

/-- The call returned v and touched nothing. -/
def RetQ (v : Value) (w : World) (e : Ending) (w' : World) : Prop := e = .returned v ∧ w = w'
def is32 (a : Int) : Prop := -2147483648 ≤ a ∧ a ≤ 2147483647
def u32 (a : Int) : Int := a % 4294967296
def rv (r : Int) (b : Bool) : Value := .tuple #[.int .i32 r, .bool b]
theorem rv_eq {r r' : Int} {b b' : Bool} (h1 : r = r') (h2 : b = b') : Ending.returned (.tuple #[.int .i32 r, .bool b]) = .returned (rv r' b') := by subst h1 h2; rfl
theorem ri_eq {k : IntKind} {r r' : Int} (h1 : r = r') : Ending.returned (.int k r) = .returned (.int k r') := by subst h1; rfl
theorem rb_eq {r r' : Bool} (h1 : r = r') : Ending.returned (.bool r) = .returned (.bool r') := by subst h1; rfl

theorem reduceI (a : Int) (w : World) (a0 : -9223372036854775808 ≤ a) (a1 : a ≤ 9223372036854775807) :
    Calls Tryd.prog 56 #[.int .i64 a] w (RetQ (rv (wrap32 a) (wrap32 a != a)) w) := by
  go_enter Tryd.func56, Tryd.ntmps56
  go_wp2
  go_ret2
  have e : wrap64 (wrap32 a) = wrap32 a := by unfold wrap64 wrap32; omega
  exact ⟨rv_eq rfl (by rw [e]), rfl⟩
theorem reduceU (a : Int) (w : World) (a0 : 0 ≤ a) (a1 : a ≤ 18446744073709551615) :
    Calls Tryd.prog 47 #[.int .u64 a] w (RetQ (rv (wrap32 a) (IntKind.u64.wrap (wrap32 a) != a)) w) := by
  go_enter Tryd.func47, Tryd.ntmps47
  go_wp2
  go_ret2
  exact ⟨rv_eq rfl rfl, rfl⟩
def addF (a b : Int) : Value := rv (wrap32 (a + b)) (wrap32 (a + b) != a + b)
def subF (a b : Int) : Value := rv (wrap32 (a - b)) (wrap32 (a - b) != a - b)
def mulF (a b : Int) : Value := rv (wrap32 (a * b)) (wrap32 (a * b) != a * b)
theorem wAdd (a b : Int) (w : World) (ha : is32 a) (hb : is32 b) : Calls Tryd.prog 41 #[.int .i32 a, .int .i32 b] w (RetQ (addF a b) w) := by
  obtain ⟨a0, a1⟩ := ha
  obtain ⟨b0, b1⟩ := hb
  go_enter Tryd.func41, Tryd.ntmps41
  go_wp2_with (go_at_call 56; refine (reduceI _ _ (by omega) (by omega)).mono ?_; unfold rv; rintro e w' ⟨rfl, rfl⟩)
  go_ret2
  exact ⟨rv_eq rfl rfl, rfl⟩
theorem wSub (a b : Int) (w : World) (ha : is32 a) (hb : is32 b) : Calls Tryd.prog 43 #[.int .i32 a, .int .i32 b] w (RetQ (subF a b) w) := by
  obtain ⟨a0, a1⟩ := ha
  obtain ⟨b0, b1⟩ := hb
  go_enter Tryd.func43, Tryd.ntmps43
  go_wp2_with (go_at_call 56; refine (reduceI _ _ (by omega) (by omega)).mono ?_; unfold rv; rintro e w' ⟨rfl, rfl⟩)
  go_ret2
  exact ⟨rv_eq rfl rfl, rfl⟩
theorem mul_bound {a b : Int} (ha : is32 a) (hb : is32 b) : -4611686018427387904 ≤ a * b ∧ a * b ≤ 4611686018427387904 := by
  obtain ⟨a0, a1⟩ := ha
  obtain ⟨b0, b1⟩ := hb
  have h := Int.natAbs_mul a b
  have h1 : a.natAbs ≤ 2147483648 := by omega
  have h2 : b.natAbs ≤ 2147483648 := by omega
  have h3 := Nat.mul_le_mul h1 h2
  omega
theorem wMul (a b : Int) (w : World) (ha : is32 a) (hb : is32 b) : Calls Tryd.prog 27 #[.int .i32 a, .int .i32 b] w (RetQ (mulF a b) w) := by
  obtain ⟨m0, m1⟩ := mul_bound ha hb
  obtain ⟨a0, a1⟩ := ha
  obtain ⟨b0, b1⟩ := hb
  go_enter Tryd.func27, Tryd.ntmps27
  go_wp2_with (go_at_call 56; refine (reduceI _ _ (by omega) (by omega)).mono ?_; unfold rv; rintro e w' ⟨rfl, rfl⟩)
  go_ret2
  exact ⟨rv_eq rfl rfl, rfl⟩
def divF (a b : Int) : Value := if b = 0 ∨ (a = -2147483648 ∧ b = -1) then rv 0 true else rv (a.tdiv b) false
def remF (a b : Int) : Value := if b = 0 then rv 0 true else rv (a.tmod b) false
theorem wDiv (a b : Int) (w : World) (ha : is32 a) (hb : is32 b) : Calls Tryd.prog 22 #[.int .i32 a, .int .i32 b] w (RetQ (divF a b) w) := by
  obtain ⟨a0, a1⟩ := ha
  obtain ⟨b0, b1⟩ := hb
  by_cases h0 : b = 0
  · subst h0
    have e : divF a 0 = rv 0 true := by simp [divF]
    rw [e]
    go_enter Tryd.func22, Tryd.ntmps22
    go_wp2
    go_ret2
    exact ⟨rv_eq rfl rfl, rfl⟩
  · have t0 : (b == 0) = false := by simpa using h0
    by_cases h1 : a = -2147483648 ∧ b = -1
    · obtain ⟨rfl, rfl⟩ := h1
      have e : divF (-2147483648) (-1) = rv 0 true := by simp [divF]
      rw [e]
      go_enter Tryd.func22, Tryd.ntmps22
      go_wp2
      go_ret2
      exact ⟨rv_eq rfl rfl, rfl⟩
    · have e : divF a b = rv (a.tdiv b) false := by rw [divF, if_neg (fun h => h.elim h0 h1)]
      rw [e]
      have hq : -2147483648 ≤ a.tdiv b ∧ a.tdiv b ≤ 2147483647 := by
        have hd : (a.tdiv b).natAbs = a.natAbs / b.natAbs := Int.natAbs_tdiv a b
        have hle := Nat.div_le_self a.natAbs b.natAbs
        have hs : a.natAbs / b.natAbs = 2147483648 → b.natAbs = 1 ∧ a.natAbs = 2147483648 := fun h => by
          have h2 : b.natAbs ≠ 0 := by omega
          rcases Nat.lt_or_ge 1 b.natAbs with h3 | h3
          · have := Nat.div_lt_self (n := a.natAbs) (k := b.natAbs) (by omega) h3; omega
          · omega
        by_cases hq : a.tdiv b = 2147483648
        · have h3 := hs (by rw [← hd, hq]; rfl)
          have h4 : b = 1 ∨ b = -1 := by omega
          rcases h4 with rfl | rfl
          · simp at hq; omega
          · have : a ≠ -2147483648 := fun h => h1 ⟨h, rfl⟩
            simp at hq; omega
        · have hle' : (a.tdiv b).natAbs ≤ a.natAbs := by rw [hd]; exact hle
          omega
      have hw : wrap32 (a.tdiv b) = a.tdiv b := by unfold wrap32; omega
      obtain ⟨q, hq'⟩ : ∃ q, a.tdiv b = q := ⟨_, rfl⟩
      by_cases h2 : a = -2147483648
      · have h3 : b ≠ -1 := fun h => h1 ⟨h2, h⟩
        have t1 : (b == -1) = false := by simpa using h3
        subst h2
        have t2 : wrap32 (-Int.tdiv 2147483648 b) = (-2147483648 : Int).tdiv b := by rw [← hw, Int.neg_tdiv]
        have T2 := Lib.hid t2
        clear t2 hw hq hq' h1 e h3
        go_enter Tryd.func22, Tryd.ntmps22
        go_wp2
        go_ret2
        exact ⟨rv_eq T2.out rfl, rfl⟩
      · have t1 : (a == -2147483648) = false := by simpa using h2
        have HW := Lib.hid hw
        clear hw hq hq' h1 e h2
        go_enter Tryd.func22, Tryd.ntmps22
        go_wp2
        go_ret2
        exact ⟨rv_eq HW.out rfl, rfl⟩
theorem wRem (a b : Int) (w : World) (ha : is32 a) (hb : is32 b) : Calls Tryd.prog 23 #[.int .i32 a, .int .i32 b] w (RetQ (remF a b) w) := by
  obtain ⟨a0, a1⟩ := ha
  obtain ⟨b0, b1⟩ := hb
  by_cases h0 : b = 0
  · subst h0
    have e : remF a 0 = rv 0 true := by simp [remF]
    rw [e]
    go_enter Tryd.func23, Tryd.ntmps23
    go_wp2
    go_ret2
    exact ⟨rv_eq rfl rfl, rfl⟩
  · have t0 : (b == 0) = false := by simpa using h0
    have e : remF a b = rv (a.tmod b) false := by simp [remF, h0]
    rw [e]
    by_cases h1 : b = -1
    · subst h1
      have e2 : a.tmod (-1) = 0 := by simp
      rw [e2]
      clear h0 e e2
      go_enter Tryd.func23, Tryd.ntmps23
      go_wp2
      go_ret2
      exact ⟨rv_eq rfl rfl, rfl⟩
    · have t1 : (b == -1) = false := by simpa using h1
      have hb0 : ¬ b = 0 := h0
      clear e h1
      go_enter Tryd.func23, Tryd.ntmps23
      go_wp2
      go_ret2
      exact ⟨rv_eq rfl rfl, rfl⟩
theorem wSum (a b : Int) (w : World) : Calls Tryd.prog 40 #[.int .i32 a, .int .i32 b] w (RetQ (.int .i32 (wrap32 (a + b))) w) := by
  go_enter Tryd.func40, Tryd.ntmps40
  go_wp2
  go_ret
  exact ⟨rfl, rfl⟩
theorem wDiff (a b : Int) (w : World) : Calls Tryd.prog 39 #[.int .i32 a, .int .i32 b] w (RetQ (.int .i32 (wrap32 (a - b))) w) := by
  go_enter Tryd.func39, Tryd.ntmps39
  go_wp2
  go_ret
  exact ⟨rfl, rfl⟩
theorem wProd (a b : Int) (w : World) : Calls Tryd.prog 31 #[.int .i32 a, .int .i32 b] w (RetQ (.int .i32 (wrap32 (a * b))) w) := by
  go_enter Tryd.func31, Tryd.ntmps31
  go_wp2
  go_ret
  exact ⟨rfl, rfl⟩
theorem wAfter (a b : Int) (w : World) : Calls Tryd.prog 38 #[.int .i32 a, .int .i32 b] w (RetQ (.bool (decide (0 < wrap32 (a - b)))) w) := by
  go_enter Tryd.func38, Tryd.ntmps38
  go_wp2
  go_ret
  exact ⟨rfl, rfl⟩
def xwordF (a b : Int) : Int := if u32 a < u32 b then a else wrap32 (a - 2 * b)
theorem wXword (a b : Int) (w : World) (ha : is32 a) (hb : is32 b) : Calls Tryd.prog 25 #[.int .i32 a, .int .i32 b] w (RetQ (.int .i32 (xwordF a b)) w) := by
  obtain ⟨a0, a1⟩ := ha
  obtain ⟨b0, b1⟩ := hb
  by_cases h : a % 4294967296 < b % 4294967296
  · have e : xwordF a b = a := by simp [xwordF, u32, h]
    rw [e]
    go_enter Tryd.func25, Tryd.ntmps25
    go_wp2
    go_ret
    exact ⟨rfl, rfl⟩
  · have e : xwordF a b = wrap32 (a - wrap32 (2 * b)) := by
      simp only [xwordF, u32, h, if_false]; unfold wrap32; omega
    rw [e]
    go_enter Tryd.func25, Tryd.ntmps25
    go_wp2
    go_ret
    exact ⟨rfl, rfl⟩
def cwordF (a b : Int) : Value := rv a (decide (b ≤ a) || decide (a < wrap32 (-b)))
theorem wCword (a b : Int) (w : World) (ha : is32 a) (hb : is32 b) : Calls Tryd.prog 26 #[.int .i32 a, .int .i32 b] w (RetQ (cwordF a b) w) := by
  obtain ⟨a0, a1⟩ := ha
  obtain ⟨b0, b1⟩ := hb
  by_cases h : b ≤ a
  · go_enter Tryd.func26, Tryd.ntmps26
    go_wp2
    all_goals
      go_ret2
      exact ⟨rv_eq rfl (by simp [h]), rfl⟩
  · go_enter Tryd.func26, Tryd.ntmps26
    go_wp2
    all_goals
      go_ret2
      refine ⟨rv_eq rfl ?_, rfl⟩
      first
        | (simp [h]; done)
        | (have : wrap32 (-b) = -b := by unfold wrap32; omega
           simp only [this]; simp; try omega)
theorem wCsub0 (a b : Int) (w : World) (ha : is32 a) (hb : is32 b) : Calls Tryd.prog 33 #[.int .i32 a, .int .i32 b] w (RetQ (rv a (decide (u32 b ≤ u32 a))) w) := by
  obtain ⟨a0, a1⟩ := ha
  obtain ⟨b0, b1⟩ := hb
  go_enter Tryd.func33, Tryd.ntmps33
  go_wp2
  go_ret2
  exact ⟨rv_eq rfl rfl, rfl⟩
theorem wCcnt1 (a b : Int) (w : World) (ha : is32 a) (hb : is32 b) : Calls Tryd.prog 35 #[.int .i32 a, .int .i32 b] w (RetQ (rv a (a == 0 || decide (u32 b < u32 a))) w) := by
  obtain ⟨a0, a1⟩ := ha
  obtain ⟨b0, b1⟩ := hb
  by_cases h : a = 0
  · subst h
    go_enter Tryd.func35, Tryd.ntmps35
    go_wp2
    go_ret2
    exact ⟨rv_eq rfl (by simp), rfl⟩
  · have t : (a == 0) = false := by simpa using h
    go_enter Tryd.func35, Tryd.ntmps35
    go_wp2
    all_goals
      go_ret2
      refine ⟨rv_eq rfl ?_, rfl⟩
      first | rfl | (rw [t]; rfl) | (simp [t, u32]; rfl)
end Go.Proofs.YtkmdigejohcnlaaDoor
