/- Texts that belong together, joined: what each one holds is told ahead of it. -/
import Derived.Test.YtbefmlioampgcaaGreatDoorHK1
import Derived.Shelf.Strconv.Itoa3
import Derived.Shelf.LaysM
import Derived.Shelf.Small.Strs
import Derived.Shelf.Strings.Search1
import Derived.Shelf.Strings.Fields
import Derived.Test.YtbefmlioampgcaaGreatDoorProg
set_option linter.unusedVariables false
set_option linter.unusedSimpArgs false
/- A region that draws its order, whose operations but the last few (in one forced order) only read: the head by the cheap quiet step, then the tail. -/
namespace Go.Proofs.YtbefmlioampgcaaGreatDoor
open Go.RowKit
set_option linter.unusedVariables false
set_option linter.unusedSimpArgs false

theorem still_of_quiet {P : Program} {o : Oper} {a : Act} {w : World} {K : Act → Prop} (h : o.quiet P a (fun w' => w' = w) K) : o.still P a w K := by
  obtain ⟨v, h1, h2⟩ := h
  have h3 := h1 w rfl
  unfold Oper.quietAt at h3
  unfold Oper.still
  generalize (execOp a.eval o).run P w = r at *
  cases r with
  | ok n w' =>
    cases n <;> simp only [Oper.quietUpon] at h3 <;> simp only [Oper.stillUpon]
    case value u => obtain ⟨e1, e2⟩ := h3; subst e2; exact ⟨e1, h2⟩
    case skip => obtain ⟨e1, e2⟩ := h3; subst e2; exact ⟨e1, h2⟩
    case enter f args =>
      obtain ⟨e1, hc⟩ := h3
      subst e1
      exact ⟨rfl, v, hc, h2⟩
  | halt x w' => simp only [Oper.quietUpon] at h3
theorem wpStill_of_quiet {P : Program} {ops : Array Oper} {w : World} {Q : Act → Prop} : ∀ (l : List Oper) (a : Act), wpQuiet P ops (fun w' => w' = w) Q l a → wpStill P ops w Q l a
  | [], _, h => h
  | o :: l, a, h => by
    simp only [wpQuiet, wpStill] at h ⊢
    split
    · rename_i hw
      rw [if_pos hw] at h
      refine still_of_quiet ?_
      obtain ⟨v, h1, h2⟩ := h
      exact ⟨v, h1, wpStill_of_quiet l _ h2⟩
    · rename_i hw
      rw [if_neg hw] at h
      exact wpStill_of_quiet l _ h
theorem wp_region_quiet_tail {P : Program} {id : Nat} {Q : Exit → Act → World → Prop} {a : Act} {w : World} {l : List Oper} (n : Nat) (hm : P.follows .mixedOrders = true) (hB : Region.lexTailB .any l.toArray n = true)
    (h : wpQuiet P l.toArray (fun w' => w' = w.drew) (fun a' => wpList P l.toArray Q (l.drop n) a' w.drew) (l.take n) a) : (Code.region id l.toArray true).wp P Q a w :=
  wp_region_still_tail n hm hB (wpStill_of_quiet _ _ h)
end Go.Proofs.YtbefmlioampgcaaGreatDoor

/- The integer functions of layer 1 and of its reference, walked. -/
namespace Go.Proofs.YtbefmlioampgcaaGreatDoor
open Go.RowKit
set_option linter.unusedVariables false
set_option linter.unusedSimpArgs false

/-- The call returned v and touched nothing. -/
def RetQ (v : Value) (w : World) (e : Ending) (w' : World) : Prop := e = .returned v ∧ w = w'
def is32 (a : Int) : Prop := -2147483648 ≤ a ∧ a ≤ 2147483647
def u32 (a : Int) : Int := a % 4294967296
def rv (r : Int) (b : Bool) : Value := .tuple #[.int .i32 r, .bool b]
theorem rv_eq {r r' : Int} {b b' : Bool} (h1 : r = r') (h2 : b = b') : Ending.returned (.tuple #[.int .i32 r, .bool b]) = .returned (rv r' b') := by subst h1 h2; rfl
theorem ri_eq {k : IntKind} {r r' : Int} (h1 : r = r') : Ending.returned (.int k r) = .returned (.int k r') := by subst h1; rfl
theorem rb_eq {r r' : Bool} (h1 : r = r') : Ending.returned (.bool r) = .returned (.bool r') := by subst h1; rfl

theorem reduceI (a : Int) (w : World) (a0 : -9223372036854775808 ≤ a) (a1 : a ≤ 9223372036854775807) :
    Calls Tryz.prog 65 #[.int .i64 a] w (RetQ (rv (wrap32 a) (wrap32 a != a)) w) := by
  go_enter Tryz.func65, Tryz.ntmps65
  go_wp2
  go_ret2
  have e : wrap64 (wrap32 a) = wrap32 a := by unfold wrap64 wrap32; omega
  exact ⟨rv_eq rfl (by rw [e]), rfl⟩
theorem reduceU (a : Int) (w : World) (a0 : 0 ≤ a) (a1 : a ≤ 18446744073709551615) :
    Calls Tryz.prog 95 #[.int .u64 a] w (RetQ (rv (wrap32 a) (IntKind.u64.wrap (wrap32 a) != a)) w) := by
  go_enter Tryz.func95, Tryz.ntmps95
  go_wp2
  go_ret2
  exact ⟨rv_eq rfl rfl, rfl⟩
def addF (a b : Int) : Value := rv (wrap32 (a + b)) (wrap32 (a + b) != a + b)
def subF (a b : Int) : Value := rv (wrap32 (a - b)) (wrap32 (a - b) != a - b)
def mulF (a b : Int) : Value := rv (wrap32 (a * b)) (wrap32 (a * b) != a * b)
theorem wAdd (a b : Int) (w : World) (ha : is32 a) (hb : is32 b) : Calls Tryz.prog 46 #[.int .i32 a, .int .i32 b] w (RetQ (addF a b) w) := by
  obtain ⟨a0, a1⟩ := ha
  obtain ⟨b0, b1⟩ := hb
  go_enter Tryz.func46, Tryz.ntmps46
  go_wp2_with (go_at_call 65; refine (reduceI _ _ (by omega) (by omega)).mono ?_; unfold rv; rintro e w' ⟨rfl, rfl⟩)
  go_ret2
  exact ⟨rv_eq rfl rfl, rfl⟩
theorem wSub (a b : Int) (w : World) (ha : is32 a) (hb : is32 b) : Calls Tryz.prog 66 #[.int .i32 a, .int .i32 b] w (RetQ (subF a b) w) := by
  obtain ⟨a0, a1⟩ := ha
  obtain ⟨b0, b1⟩ := hb
  go_enter Tryz.func66, Tryz.ntmps66
  go_wp2_with (go_at_call 65; refine (reduceI _ _ (by omega) (by omega)).mono ?_; unfold rv; rintro e w' ⟨rfl, rfl⟩)
  go_ret2
  exact ⟨rv_eq rfl rfl, rfl⟩
theorem mul_bound {a b : Int} (ha : is32 a) (hb : is32 b) : -4611686018427387904 ≤ a * b ∧ a * b ≤ 4611686018427387904 := by
  obtain ⟨a0, a1⟩ := ha
  obtain ⟨b0, b1⟩ := hb
  have h := Int.natAbs_mul a b
  have h1 : a.natAbs ≤ 2147483648 := by omega
  have h2 : b.natAbs ≤ 2147483648 := by omega
  have h3 := Nat.mul_le_mul h1 h2
  omega
theorem wMul (a b : Int) (w : World) (ha : is32 a) (hb : is32 b) : Calls Tryz.prog 67 #[.int .i32 a, .int .i32 b] w (RetQ (mulF a b) w) := by
  obtain ⟨m0, m1⟩ := mul_bound ha hb
  obtain ⟨a0, a1⟩ := ha
  obtain ⟨b0, b1⟩ := hb
  go_enter Tryz.func67, Tryz.ntmps67
  go_wp2_with (go_at_call 65; refine (reduceI _ _ (by omega) (by omega)).mono ?_; unfold rv; rintro e w' ⟨rfl, rfl⟩)
  go_ret2
  exact ⟨rv_eq rfl rfl, rfl⟩
def divF (a b : Int) : Value := if b = 0 ∨ (a = -2147483648 ∧ b = -1) then rv 0 true else rv (a.tdiv b) false
def remF (a b : Int) : Value := if b = 0 then rv 0 true else rv (a.tmod b) false
theorem wDiv (a b : Int) (w : World) (ha : is32 a) (hb : is32 b) : Calls Tryz.prog 68 #[.int .i32 a, .int .i32 b] w (RetQ (divF a b) w) := by
  obtain ⟨a0, a1⟩ := ha
  obtain ⟨b0, b1⟩ := hb
  by_cases h0 : b = 0
  · subst h0
    have e : divF a 0 = rv 0 true := by simp [divF]
    rw [e]
    go_enter Tryz.func68, Tryz.ntmps68
    go_wp2
    go_ret2
    exact ⟨rv_eq rfl rfl, rfl⟩
  · have t0 : (b == 0) = false := by simpa using h0
    by_cases h1 : a = -2147483648 ∧ b = -1
    · obtain ⟨rfl, rfl⟩ := h1
      have e : divF (-2147483648) (-1) = rv 0 true := by simp [divF]
      rw [e]
      go_enter Tryz.func68, Tryz.ntmps68
      go_wp2
      go_ret2
      exact ⟨rv_eq rfl rfl, rfl⟩
    · have e : divF a b = rv (a.tdiv b) false := by rw [divF, if_neg (fun h => h.elim h0 h1)]
      rw [e]
      have hq : -2147483648 ≤ a.tdiv b ∧ a.tdiv b ≤ 2147483647 := by
        have hd : (a.tdiv b).natAbs = a.natAbs / b.natAbs := Int.natAbs_tdiv a b
        have hle := Nat.div_le_self a.natAbs b.natAbs
        have hs : a.natAbs / b.natAbs = 2147483648 → b.natAbs = 1 ∧ a.natAbs = 2147483648 := fun h => by
          have h2 : b.natAbs ≠ 0 := by omega
          rcases Nat.lt_or_ge 1 b.natAbs with h3 | h3
          · have := Nat.div_lt_self (n := a.natAbs) (k := b.natAbs) (by omega) h3; omega
          · omega
        by_cases hq : a.tdiv b = 2147483648
        · have h3 := hs (by rw [← hd, hq]; rfl)
          have h4 : b = 1 ∨ b = -1 := by omega
          rcases h4 with rfl | rfl
          · simp at hq; omega
          · have : a ≠ -2147483648 := fun h => h1 ⟨h, rfl⟩
            simp at hq; omega
        · have hle' : (a.tdiv b).natAbs ≤ a.natAbs := by rw [hd]; exact hle
          omega
      have hw : wrap32 (a.tdiv b) = a.tdiv b := by unfold wrap32; omega
      obtain ⟨q, hq'⟩ : ∃ q, a.tdiv b = q := ⟨_, rfl⟩
      by_cases h2 : a = -2147483648
      · have h3 : b ≠ -1 := fun h => h1 ⟨h2, h⟩
        have t1 : (b == -1) = false := by simpa using h3
        subst h2
        have t2 : wrap32 (-Int.tdiv 2147483648 b) = (-2147483648 : Int).tdiv b := by rw [← hw, Int.neg_tdiv]
        have T2 := Lib.hid t2
        clear t2 hw hq hq' h1 e h3
        go_enter Tryz.func68, Tryz.ntmps68
        go_wp2
        go_ret2
        exact ⟨rv_eq T2.out rfl, rfl⟩
      · have t1 : (a == -2147483648) = false := by simpa using h2
        have HW := Lib.hid hw
        clear hw hq hq' h1 e h2
        go_enter Tryz.func68, Tryz.ntmps68
        go_wp2
        go_ret2
        exact ⟨rv_eq HW.out rfl, rfl⟩
theorem wRem (a b : Int) (w : World) (ha : is32 a) (hb : is32 b) : Calls Tryz.prog 69 #[.int .i32 a, .int .i32 b] w (RetQ (remF a b) w) := by
  obtain ⟨a0, a1⟩ := ha
  obtain ⟨b0, b1⟩ := hb
  by_cases h0 : b = 0
  · subst h0
    have e : remF a 0 = rv 0 true := by simp [remF]
    rw [e]
    go_enter Tryz.func69, Tryz.ntmps69
    go_wp2
    go_ret2
    exact ⟨rv_eq rfl rfl, rfl⟩
  · have t0 : (b == 0) = false := by simpa using h0
    have e : remF a b = rv (a.tmod b) false := by simp [remF, h0]
    rw [e]
    by_cases h1 : b = -1
    · subst h1
      have e2 : a.tmod (-1) = 0 := by simp
      rw [e2]
      clear h0 e e2
      go_enter Tryz.func69, Tryz.ntmps69
      go_wp2
      go_ret2
      exact ⟨rv_eq rfl rfl, rfl⟩
    · have t1 : (b == -1) = false := by simpa using h1
      have hb0 : ¬ b = 0 := h0
      clear e h1
      go_enter Tryz.func69, Tryz.ntmps69
      go_wp2
      go_ret2
      exact ⟨rv_eq rfl rfl, rfl⟩
theorem wSum (a b : Int) (w : World) : Calls Tryz.prog 70 #[.int .i32 a, .int .i32 b] w (RetQ (.int .i32 (wrap32 (a + b))) w) := by
  go_enter Tryz.func70, Tryz.ntmps70
  go_wp2
  go_ret
  exact ⟨rfl, rfl⟩
theorem wDiff (a b : Int) (w : World) : Calls Tryz.prog 71 #[.int .i32 a, .int .i32 b] w (RetQ (.int .i32 (wrap32 (a - b))) w) := by
  go_enter Tryz.func71, Tryz.ntmps71
  go_wp2
  go_ret
  exact ⟨rfl, rfl⟩
theorem wProd (a b : Int) (w : World) : Calls Tryz.prog 72 #[.int .i32 a, .int .i32 b] w (RetQ (.int .i32 (wrap32 (a * b))) w) := by
  go_enter Tryz.func72, Tryz.ntmps72
  go_wp2
  go_ret
  exact ⟨rfl, rfl⟩
def xwordF (a b : Int) : Int := if u32 a < u32 b then a else wrap32 (a - 2 * b)
def cwordF (a b : Int) : Value := rv a (decide (b ≤ a) || decide (a < wrap32 (-b)))
theorem wCsub0 (a b : Int) (w : World) (ha : is32 a) (hb : is32 b) : Calls Tryz.prog 75 #[.int .i32 a, .int .i32 b] w (RetQ (rv a (decide (u32 b ≤ u32 a))) w) := by
  obtain ⟨a0, a1⟩ := ha
  obtain ⟨b0, b1⟩ := hb
  go_enter Tryz.func75, Tryz.ntmps75
  go_wp2
  go_ret2
  exact ⟨rv_eq rfl rfl, rfl⟩
end Go.Proofs.YtbefmlioampgcaaGreatDoor

/- Shifts, and the integer functions of the reference, walked: each has the answer of the program's function. -/
namespace Go.Proofs.YtbefmlioampgcaaGreatDoor
open Go.RowKit
set_option linter.unusedVariables false
set_option linter.unusedSimpArgs false

def sh (n : Int) : Nat := min (u32 n).toNat 32
def shlF (a n : Int) : Int := wrap32 (a * 2 ^ sh n)
def shrF (a n : Int) : Int := wrap32 (u32 a / 2 ^ sh n)
theorem wrap32_mod (t m : Int) : wrap32 (t + 4294967296 * m) = wrap32 t := by unfold wrap32; omega
theorem wrap32_u64 (t : Int) : wrap32 (IntKind.u64.wrap t) = wrap32 t := by
  have e : IntKind.u64.wrap t = t % 18446744073709551616 := by simp [IntKind.wrap, IntKind.signed, IntKind.bits]
  rw [e]; unfold wrap32; omega
theorem u32_mul (a p : Int) : wrap32 (u32 a * p) = wrap32 (a * p) := by
  have e : a = u32 a + 4294967296 * (a / 4294967296) := by unfold u32; omega
  have e2 : a * p = u32 a * p + 4294967296 * ((a / 4294967296) * p) := by
    conv => lhs; rw [e]
    rw [Int.add_mul, Int.mul_assoc]
  rw [e2, wrap32_mod]
theorem u32_bounds (a : Int) : 0 ≤ u32 a ∧ u32 a < 4294967296 := by unfold u32; omega
theorem u64w_bounds (t : Int) : 0 ≤ IntKind.u64.wrap t ∧ IntKind.u64.wrap t ≤ 18446744073709551615 := by
  have e2 : IntKind.u64.wrap t = t % 18446744073709551616 := by simp [IntKind.wrap, IntKind.signed, IntKind.bits]
  rw [e2]; omega
theorem wShl (a n : Int) (w : World) (ha : is32 a) (hn : is32 n) : Calls Tryz.prog 73 #[.int .i32 a, .int .i32 n] w (RetQ (.int .i32 (shlF a n)) w) := by
  obtain ⟨a0, a1⟩ := ha
  obtain ⟨b0, b1⟩ := hn
  by_cases h : n % 4294967296 ≤ 31
  · have e : shlF a n = wrap32 (IntKind.u64.wrap (a % 4294967296 * 2 ^ (n % 4294967296).toNat)) := by
      rw [wrap32_u64, shlF, ← u32_mul]
      have : sh n = (n % 4294967296).toNat := by unfold sh u32; omega
      rw [this]; rfl
    rw [e]
    have h' : ¬ (31 < n % 4294967296) := by omega
    clear e
    go_enter Tryz.func73, Tryz.ntmps73
    go_wp2_with (go_at_call 95; refine (reduceU _ _ (u64w_bounds _).1 (u64w_bounds _).2).mono ?_; unfold rv; rintro e w' ⟨rfl, rfl⟩)
    go_ret
    have e3 : n % 4294967296 = n := by omega
    exact ⟨ri_eq (by rw [e3]), rfl⟩
  · have e : shlF a n = 0 := by
      have : sh n = 32 := by unfold sh u32; omega
      rw [shlF, this]
      unfold wrap32; omega
    rw [e]
    have h' : 31 < n % 4294967296 := by omega
    go_enter Tryz.func73, Tryz.ntmps73
    go_wp2
    go_ret
    exact ⟨rfl, rfl⟩
theorem wShr (a n : Int) (w : World) (ha : is32 a) (hn : is32 n) : Calls Tryz.prog 74 #[.int .i32 a, .int .i32 n] w (RetQ (.int .i32 (shrF a n)) w) := by
  obtain ⟨a0, a1⟩ := ha
  obtain ⟨b0, b1⟩ := hn
  have hs : Op.shift .shr .u32 (a % 4294967296) .u32 (n % 4294967296) = pure (.int .u32 (u32 a / 2 ^ sh n)) := by
    have hneg : ¬ n % 4294967296 < 0 := by omega
    simp only [Op.shift, if_neg hneg, IntKind.bits]
    rw [Int.fdiv_eq_ediv_of_nonneg _ (by exact Int.le_of_lt (Int.pow_pos (by omega)))]
    rfl
  obtain ⟨z, hz⟩ : ∃ z, u32 a / 2 ^ sh n = z := ⟨_, rfl⟩
  have e : shrF a n = wrap32 z := by rw [shrF, hz]
  rw [hz] at hs
  rw [e]
  clear hz e
  go_enter Tryz.func74, Tryz.ntmps74
  go_wp2
  go_ret
  exact ⟨rfl, rfl⟩

theorem tmod_pow (a : Int) : a.tmod 4294967296 = if 0 ≤ a then a % 4294967296 else -((-a) % 4294967296) := by
  split
  · rename_i h; exact Int.tmod_eq_emod_of_nonneg h
  · rename_i h
    have : a = -(-a) := by omega
    conv => lhs; rw [this]
    rw [Int.neg_tmod, Int.tmod_eq_emod_of_nonneg (by omega)]
theorem rWrap (a : Int) (w : World) (a0 : -9223372036854775808 ≤ a) (a1 : a ≤ 9223372036854775807) : Calls Tryz.prog 81 #[.int .i64 a] w (RetQ (.int .i32 (wrap32 a)) w) := by
  have ht := tmod_pow a
  obtain ⟨t, hte⟩ : ∃ t, a.tmod 4294967296 = t := ⟨_, rfl⟩
  rw [hte] at ht
  have Ht := Lib.hid ht
  have htb : -4294967295 ≤ t ∧ t ≤ 4294967295 := by rw [ht]; split <;> omega
  obtain ⟨t0, t1⟩ := htb
  clear ht
  by_cases h1 : t < 0
  · by_cases h2 : 2147483648 ≤ t + 4294967296
    · go_enter Tryz.func81, Tryz.ntmps81
      go_wp2
      go_ret
      refine ⟨ri_eq ?_, rfl⟩
      rw [Ht.out] at t0 t1 h1 h2 ⊢
      unfold wrap32; split at * <;> omega
    · have h2' : ¬ (2147483648 ≤ t + 4294967296) := h2
      go_enter Tryz.func81, Tryz.ntmps81
      go_wp2
      go_ret
      refine ⟨ri_eq ?_, rfl⟩
      rw [Ht.out] at t0 t1 h1 h2 ⊢
      unfold wrap32; split at * <;> omega
  · by_cases h2 : 2147483648 ≤ t
    · go_enter Tryz.func81, Tryz.ntmps81
      go_wp2
      go_ret
      refine ⟨ri_eq ?_, rfl⟩
      rw [Ht.out] at t0 t1 h1 h2 ⊢
      unfold wrap32; split at * <;> omega
    · go_enter Tryz.func81, Tryz.ntmps81
      go_wp2
      go_ret
      refine ⟨ri_eq ?_, rfl⟩
      rw [Ht.out] at t0 t1 h1 h2 ⊢
      unfold wrap32; split at * <;> omega
def fits (t : Int) : Bool := decide (-2147483648 ≤ t) && decide (t < 2147483648)
theorem fits_wrap (t : Int) : (!fits t) = (wrap32 t != t) := by
  unfold fits
  rw [Bool.eq_iff_iff]
  simp only [Bool.not_eq_true', Bool.and_eq_false_iff, decide_eq_false_iff_not, bne_iff_ne, ne_eq]
  unfold wrap32; omega
theorem rFits (a : Int) (w : World) : Calls Tryz.prog 97 #[.int .i64 a] w (RetQ (.bool (fits a)) w) := by
  by_cases h : -2147483648 ≤ a
  · go_enter Tryz.func97, Tryz.ntmps97
    go_wp2
    all_goals
      go_ret
      refine ⟨rb_eq ?_, rfl⟩
      simp [fits, h]
  · have h' : decide (-2147483648 ≤ a) = false := by simpa using h
    go_enter Tryz.func97, Tryz.ntmps97
    go_wp2
    all_goals
      go_ret
      refine ⟨rb_eq ?_, rfl⟩
      simp [fits, h']
theorem rUns (a : Int) (w : World) (ha : is32 a) : Calls Tryz.prog 99 #[.int .i32 a] w (RetQ (.int .i64 (u32 a)) w) := by
  obtain ⟨a0, a1⟩ := ha
  by_cases h : a < 0
  · go_enter Tryz.func99, Tryz.ntmps99
    go_wp2
    go_ret
    refine ⟨ri_eq ?_, rfl⟩
    unfold u32; omega
  · go_enter Tryz.func99, Tryz.ntmps99
    go_wp2
    go_ret
    refine ⟨ri_eq ?_, rfl⟩
    unfold u32; omega
theorem rsize (a : Int) (w : World) (ha : is32 a) : Calls Tryz.prog 98 #[.int .i32 a] w (RetQ (.int .i64 (a.natAbs : Int)) w) := by
  obtain ⟨a0, a1⟩ := ha
  by_cases h : a < 0
  · go_enter Tryz.func98, Tryz.ntmps98
    go_wp2
    go_ret
    refine ⟨ri_eq ?_, rfl⟩
    omega
  · go_enter Tryz.func98, Tryz.ntmps98
    go_wp2
    go_ret
    refine ⟨ri_eq ?_, rfl⟩
    omega
end Go.Proofs.YtbefmlioampgcaaGreatDoor

/- The reference's arithmetic, walked: each function has the answer of the program's function. -/
namespace Go.Proofs.YtbefmlioampgcaaGreatDoor
open Go.RowKit
set_option linter.unusedVariables false
set_option linter.unusedSimpArgs false

theorem wrap32_is (t : Int) : is32 (wrap32 t) := by unfold is32 wrap32; omega
theorem rSub (a b : Int) (w : World) (ha : is32 a) (hb : is32 b) : Calls Tryz.prog 101 #[.int .i32 a, .int .i32 b] w (RetQ (subF a b) w) := by
  obtain ⟨a0, a1⟩ := ha
  obtain ⟨b0, b1⟩ := hb
  go_enter Tryz.func101, Tryz.ntmps101
  go_wp2_with (first
    | (go_at_call 81; refine (rWrap _ _ (by omega) (by omega)).mono ?_; rintro e w' ⟨rfl, rfl⟩)
    | (go_at_call 97; refine (rFits _ _).mono ?_; rintro e w' ⟨rfl, rfl⟩))
  go_ret2
  exact ⟨rv_eq rfl (fits_wrap _), rfl⟩
theorem rMul (a b : Int) (w : World) (ha : is32 a) (hb : is32 b) : Calls Tryz.prog 82 #[.int .i32 a, .int .i32 b] w (RetQ (mulF a b) w) := by
  obtain ⟨m0, m1⟩ := mul_bound ha hb
  obtain ⟨a0, a1⟩ := ha
  obtain ⟨b0, b1⟩ := hb
  go_enter Tryz.func82, Tryz.ntmps82
  go_wp2_with (first
    | (go_at_call 81; refine (rWrap _ _ (by omega) (by omega)).mono ?_; rintro e w' ⟨rfl, rfl⟩)
    | (go_at_call 97; refine (rFits _ _).mono ?_; rintro e w' ⟨rfl, rfl⟩))
  go_ret2
  exact ⟨rv_eq rfl (fits_wrap _), rfl⟩
theorem rAfter (a b : Int) (w : World) (ha : is32 a) (hb : is32 b) : Calls Tryz.prog 87 #[.int .i32 a, .int .i32 b] w (RetQ (.bool (decide (0 < wrap32 (a - b)))) w) := by
  go_enter Tryz.func87, Tryz.ntmps87
  go_wp2_with (go_at_call 101; refine (rSub _ _ _ ha hb).mono ?_; unfold subF rv; rintro e w' ⟨rfl, rfl⟩)
  go_ret
  exact ⟨rfl, rfl⟩
theorem tdiv_abs {a b : Int} : a.tdiv b = if (a < 0) = (b < 0) then ((a.natAbs / b.natAbs : Nat) : Int) else -((a.natAbs / b.natAbs : Nat) : Int) := by
  rcases Int.natAbs_eq a with h | h <;> rcases Int.natAbs_eq b with h' | h'
  · have h1 : ¬ a < 0 := by omega
    have h2 : ¬ b < 0 := by omega
    rw [if_pos (by simp [h1, h2])]
    conv => lhs; rw [h, h']
    rfl
  · by_cases hb : b = 0
    · subst hb; simp
    · have h1 : ¬ a < 0 := by omega
      have h2 : b < 0 := by omega
      rw [if_neg (by simp [h1, h2])]
      conv => lhs; rw [h, h']
      rw [Int.tdiv_neg]; rfl
  · by_cases ha : a = 0
    · subst ha; simp
    · have h1 : a < 0 := by omega
      have h2 : ¬ b < 0 := by omega
      rw [if_neg (by simp [h1, h2])]
      conv => lhs; rw [h, h']
      rw [Int.neg_tdiv]; rfl
  · by_cases ha : a = 0
    · subst ha; simp
    · by_cases hb : b = 0
      · subst hb; simp
      · have h1 : a < 0 := by omega
        have h2 : b < 0 := by omega
        rw [if_pos (by simp [h1, h2])]
        conv => lhs; rw [h, h']
        rw [Int.tdiv_neg, Int.neg_tdiv, Int.neg_neg]; rfl
theorem tmod_abs {a b : Int} : a.tmod b = if a < 0 then -((a.natAbs % b.natAbs : Nat) : Int) else ((a.natAbs % b.natAbs : Nat) : Int) := by
  have hb : a.tmod b = a.tmod (b.natAbs : Int) := by
    rcases Int.natAbs_eq b with h' | h'
    · conv => lhs; rw [h']
    · conv => lhs; rw [h', Int.tmod_neg]
  rw [hb]
  rcases Int.natAbs_eq a with h | h
  · have h1 : ¬ a < 0 := by omega
    rw [if_neg h1]
    conv => lhs; rw [h]
    rfl
  · by_cases ha : a = 0
    · subst ha; simp
    · rw [if_pos (by omega)]
      conv => lhs; rw [h]
      rw [Int.neg_tmod]; rfl
end Go.Proofs.YtbefmlioampgcaaGreatDoor

/- The reference's division and shifts, walked. -/
namespace Go.Proofs.YtbefmlioampgcaaGreatDoor
open Go.RowKit
set_option linter.unusedVariables false
set_option linter.unusedSimpArgs false

/-- The quotient by absolute values. -/
def quoA (a b : Int) : Int := if (a < 0) = (b < 0) then ((a.natAbs / b.natAbs : Nat) : Int) else -((a.natAbs / b.natAbs : Nat) : Int)

theorem quoA_bounds (a b : Int) (ha : is32 a) : a.natAbs / b.natAbs ≤ 2147483648 ∧ -2147483648 ≤ quoA a b ∧ quoA a b ≤ 2147483648 := by
  obtain ⟨a0, a1⟩ := ha
  have hle := Nat.div_le_self a.natAbs b.natAbs
  have : a.natAbs / b.natAbs ≤ 2147483648 := by omega
  unfold quoA
  generalize a.natAbs / b.natAbs = q at this
  refine ⟨this, ?_, ?_⟩ <;> split <;> omega

theorem divF_quoA (a b : Int) (ha : is32 a) (hb : is32 b) (h0 : ¬ b = 0) :
    divF a b = if fits (quoA a b) = true then rv (quoA a b) false else rv 0 true := by
  have ht : a.tdiv b = quoA a b := by rw [tdiv_abs]; unfold quoA; split <;> simp_all
  obtain ⟨-, l, u⟩ := quoA_bounds a b ha
  by_cases h1 : a = -2147483648 ∧ b = -1
  · rw [divF, if_pos (.inr h1)]
    obtain ⟨rfl, rfl⟩ := h1
    rfl
  · rw [divF, if_neg (fun h => h.elim h0 h1), ht]
    have : ¬ quoA a b = 2147483648 := fun h => by
      obtain ⟨a0, a1⟩ := ha
      obtain ⟨b0, b1⟩ := hb
      unfold quoA at h
      split at h
      · rename_i hs
        have hq : a.natAbs / b.natAbs = 2147483648 := by
          generalize a.natAbs / b.natAbs = q at h
          omega
        have hle := Nat.div_le_self a.natAbs b.natAbs
        have hn : b.natAbs = 1 := by
          rcases Nat.lt_or_ge 1 b.natAbs with h3 | h3
          · have := Nat.div_lt_self (n := a.natAbs) (k := b.natAbs) (by omega) h3; omega
          · omega
        have h3 : ¬ (b = 1) := fun h => by
          subst h
          have h4 : ¬ a < 0 := by simpa using hs
          omega
        omega
      · generalize a.natAbs / b.natAbs = q at h
        omega
    rw [if_pos (by simp [fits]; omega)]

theorem rDiv (a b : Int) (w : World) (ha : is32 a) (hb : is32 b) : Calls Tryz.prog 79 #[.int .i32 a, .int .i32 b] w (RetQ (divF a b) w) := by
  have HA := Lib.hid (fun w => rsize a w ha)
  have HB := Lib.hid (fun w => rsize b w hb)
  by_cases h0 : b = 0
  · subst h0
    have e : divF a 0 = rv 0 true := by simp [divF]
    rw [e]
    go_enter Tryz.func79, Tryz.ntmps79
    go_wp2
    go_ret2
    exact ⟨rv_eq rfl rfl, rfl⟩
  · rw [divF_quoA a b ha hb h0]
    obtain ⟨hq, hl, hu⟩ := quoA_bounds a b ha
    have hqa : quoA a b = if (a < 0) = (b < 0) then ((a.natAbs / b.natAbs : Nat) : Int) else -((a.natAbs / b.natAbs : Nat) : Int) := rfl
    obtain ⟨t, ht⟩ : ∃ t, quoA a b = t := ⟨_, rfl⟩
    rw [ht] at hl hu hqa ⊢
    obtain ⟨a0, a1⟩ := ha
    obtain ⟨b0, b1⟩ := hb
    obtain ⟨m, hm⟩ : ∃ m, a.natAbs = m := ⟨_, rfl⟩
    obtain ⟨n, hn⟩ : ∃ n, b.natAbs = n := ⟨_, rfl⟩
    rw [hm] at HA hq hqa
    rw [hn] at HB hq hqa
    have hm31 : m ≤ 2147483648 := by omega
    have hn0 : 0 < n := by omega
    have hn31 : n ≤ 2147483648 := by omega
    have hn0I : ¬ ((n : Int) = 0) := by omega
    have t0 : (b == 0) = false := by simpa using h0
    have HW : Hid (wrap64 ((m : Int) / (n : Int)) = ((m / n : Nat) : Int)) := Lib.hid (by
      have : (m : Int) / (n : Int) = ((m / n : Nat) : Int) := rfl
      rw [this]; unfold wrap64
      generalize m / n = q at hq ⊢
      omega)
    have HV : Hid (wrap64 (-wrap64 ((m : Int) / (n : Int))) = -((m / n : Nat) : Int)) := Lib.hid (by
      rw [HW.out]; unfold wrap64
      generalize m / n = q at hq ⊢
      omega)
    have tok : True := trivial
    by_cases hf : fits t = true
    · rw [if_pos hf]
      have HF := Lib.hid hf
      have hf2 := hf
      unfold fits at hf2
      simp only [Bool.and_eq_true, decide_eq_true_eq] at hf2
      obtain ⟨t1, t2⟩ := hf2
      clear hf hl hu
      by_cases hs : (a < 0) = (b < 0)
      · rw [if_pos hs] at hqa
        have hd : (decide (a < 0) == decide (b < 0)) = true := by simp [hs]
        have HT := Lib.hid (HW.out.trans hqa.symm); clear hqa ht hs HW HV
        go_enter Tryz.func79, Tryz.ntmps79
        go_wp2_with (first
          | (go_at_call 98; have _t := tok; refine (HA.out _).mono ?_; clear tok; rintro e w' ⟨rfl, rfl⟩)
          | (go_at_call 98; refine (HB.out _).mono ?_; rintro e w' ⟨rfl, rfl⟩)
          | (go_at_call 97; rw [HT.out]; refine (rFits _ _).mono ?_; rw [HF.out]; rintro e w' ⟨rfl, rfl⟩))
        go_ret2
        exact ⟨rv_eq rfl rfl, rfl⟩
      · rw [if_neg hs] at hqa
        have hd : (decide (a < 0) == decide (b < 0)) = false := by simpa using hs
        have HT := Lib.hid (HV.out.trans hqa.symm); clear hqa ht hs HW HV
        go_enter Tryz.func79, Tryz.ntmps79
        go_wp2_with (first
          | (go_at_call 98; have _t := tok; refine (HA.out _).mono ?_; clear tok; rintro e w' ⟨rfl, rfl⟩)
          | (go_at_call 98; refine (HB.out _).mono ?_; rintro e w' ⟨rfl, rfl⟩)
          | (go_at_call 97; rw [HT.out]; refine (rFits _ _).mono ?_; rw [HF.out]; rintro e w' ⟨rfl, rfl⟩))
        go_ret2
        exact ⟨rv_eq rfl rfl, rfl⟩
    · rw [if_neg hf]
      have HF : Hid (fits t = false) := Lib.hid (by simpa using hf)
      clear hf hl hu
      by_cases hs : (a < 0) = (b < 0)
      · rw [if_pos hs] at hqa
        have hd : (decide (a < 0) == decide (b < 0)) = true := by simp [hs]
        have HT := Lib.hid (HW.out.trans hqa.symm); clear hqa ht hs HW HV
        go_enter Tryz.func79, Tryz.ntmps79
        go_wp2_with (first
          | (go_at_call 98; have _t := tok; refine (HA.out _).mono ?_; clear tok; rintro e w' ⟨rfl, rfl⟩)
          | (go_at_call 98; refine (HB.out _).mono ?_; rintro e w' ⟨rfl, rfl⟩)
          | (go_at_call 97; rw [HT.out]; refine (rFits _ _).mono ?_; rw [HF.out]; rintro e w' ⟨rfl, rfl⟩))
        go_ret2
        exact ⟨rv_eq rfl rfl, rfl⟩
      · rw [if_neg hs] at hqa
        have hd : (decide (a < 0) == decide (b < 0)) = false := by simpa using hs
        have HT := Lib.hid (HV.out.trans hqa.symm); clear hqa ht hs HW HV
        go_enter Tryz.func79, Tryz.ntmps79
        go_wp2_with (first
          | (go_at_call 98; have _t := tok; refine (HA.out _).mono ?_; clear tok; rintro e w' ⟨rfl, rfl⟩)
          | (go_at_call 98; refine (HB.out _).mono ?_; rintro e w' ⟨rfl, rfl⟩)
          | (go_at_call 97; rw [HT.out]; refine (rFits _ _).mono ?_; rw [HF.out]; rintro e w' ⟨rfl, rfl⟩))
        go_ret2
        exact ⟨rv_eq rfl rfl, rfl⟩

theorem rRem (a b : Int) (w : World) (ha : is32 a) (hb : is32 b) : Calls Tryz.prog 80 #[.int .i32 a, .int .i32 b] w (RetQ (remF a b) w) := by
  have HA := Lib.hid (fun w => rsize a w ha)
  have HB := Lib.hid (fun w => rsize b w hb)
  by_cases h0 : b = 0
  · subst h0
    have e : remF a 0 = rv 0 true := by simp [remF]
    rw [e]
    go_enter Tryz.func80, Tryz.ntmps80
    go_wp2
    go_ret2
    exact ⟨rv_eq rfl rfl, rfl⟩
  · have e : remF a b = rv (a.tmod b) false := by rw [remF, if_neg h0]
    rw [e, tmod_abs]
    obtain ⟨a0, a1⟩ := ha
    obtain ⟨b0, b1⟩ := hb
    obtain ⟨m, hm⟩ : ∃ m, a.natAbs = m := ⟨_, rfl⟩
    obtain ⟨n, hn⟩ : ∃ n, b.natAbs = n := ⟨_, rfl⟩
    rw [hm] at HA ⊢
    rw [hn] at HB ⊢
    have hm31 : m ≤ 2147483648 := by omega
    have hn0 : 0 < n := by omega
    have hn31 : n ≤ 2147483648 := by omega
    have hn0I : ¬ ((n : Int) = 0) := by omega
    have t0 : (b == 0) = false := by simpa using h0
    have hlt := Nat.mod_lt m hn0
    have hle := Nat.mod_le m n
    have HW : Hid (wrap64 ((m : Int) % (n : Int)) = ((m % n : Nat) : Int)) := Lib.hid (by
      have : (m : Int) % (n : Int) = ((m % n : Nat) : Int) := rfl
      rw [this]; unfold wrap64
      generalize m % n = q at hlt ⊢
      omega)
    obtain ⟨r, hr⟩ : ∃ r, m % n = r := ⟨_, rfl⟩
    rw [hr] at hlt hle HW ⊢
    have HR : Hid ((m : Int) % (n : Int) = (r : Int)) := Lib.hid (by rw [← hr]; rfl)
    have tok : True := trivial
    by_cases hs : a < 0
    · rw [if_pos hs]
      go_enter Tryz.func80, Tryz.ntmps80
      go_wp2_with (first
        | (go_at_call 98; have _t := tok; refine (HA.out _).mono ?_; clear tok; rintro e w' ⟨rfl, rfl⟩)
        | (go_at_call 98; refine (HB.out _).mono ?_; rintro e w' ⟨rfl, rfl⟩))
      go_ret2
      exact ⟨rv_eq (by rw [HR.out]) rfl, rfl⟩
    · rw [if_neg hs]
      go_enter Tryz.func80, Tryz.ntmps80
      go_wp2_with (first
        | (go_at_call 98; have _t := tok; refine (HA.out _).mono ?_; clear tok; rintro e w' ⟨rfl, rfl⟩)
        | (go_at_call 98; refine (HB.out _).mono ?_; rintro e w' ⟨rfl, rfl⟩))
      go_ret2
      exact ⟨rv_eq (by rw [HR.out]) rfl, rfl⟩

/-- One more place to the left. -/
theorem shl_step (a : Int) (k : Nat) : wrap32 (2 * wrap32 (a * 2 ^ k)) = wrap32 (a * 2 ^ (k + 1)) := by
  rw [Int.pow_succ, ← Int.mul_assoc]
  generalize a * 2 ^ k = x
  unfold wrap32; omega
theorem shr_step (z : Int) (k : Nat) (h : 0 ≤ z) : z / 2 ^ k / 2 = z / 2 ^ (k + 1) := by
  rw [Int.pow_succ, Int.ediv_ediv_of_nonneg (Int.pow_nonneg (by decide))]
theorem sh_lt {n : Int} {k : Nat} (h1 : (k : Int) < u32 n) (h2 : k < 32) : k < sh n := by unfold sh; omega
theorem sh_ge {n : Int} {k : Nat} (hk : k ≤ sh n) (h1 : ¬ ((k : Int) < u32 n ∧ k < 32)) : k = sh n := by unfold sh at *; omega

theorem rShl (a n : Int) (w : World) (ha : is32 a) (hn : is32 n) : Calls Tryz.prog 84 #[.int .i32 a, .int .i32 n] w (RetQ (.int .i32 (shlF a n)) w) := by
  have HU := Lib.hid (fun w => rUns n w hn)
  obtain ⟨u0, u1⟩ : 0 ≤ u32 n ∧ u32 n < 4294967296 := u32_bounds n
  obtain ⟨u, hu⟩ : ∃ u, u32 n = u := ⟨_, rfl⟩
  rw [hu] at u0 u1 HU
  have Hu := Lib.hid hu; clear hu
  have hsh : sh n ≤ 32 := by unfold sh; omega
  go_enter Tryz.func84, Tryz.ntmps84
  go_wp2_with (first
        | (go_at_call 99; refine (HU.out _).mono ?_; rintro e w' ⟨rfl, rfl⟩))
  go_loop [5, 6] (fun t i => ∃ k : Nat, k ≤ sh n ∧ i = .int .i64 k ∧ t = .int .i32 (wrap32 (a * 2 ^ k))) (fun _ i => 32 - (intOf i).toNat)
  case atStart => exact ⟨0, Nat.zero_le _, rfl, by obtain ⟨a0, a1⟩ := ha; congr 1; unfold wrap32; omega⟩
  case round =>
    obtain ⟨k, hk, rfl, rfl⟩ := hrel
    obtain ⟨x, hx⟩ : ∃ x, wrap32 (a * 2 ^ k) = x := ⟨_, rfl⟩
    have hb := wrap32_is (a * 2 ^ k)
    rw [hx] at hb ⊢
    obtain ⟨x0, x1⟩ := hb
    have Hx := Lib.hid hx; clear hx
    have hk32 : k ≤ 32 := by omega
    have Hk := Lib.hid hk; clear hk hsh
    by_cases hlt : (k : Int) < u
    · by_cases h32 : k < 32
      · have h32I : (k : Int) < 32 := by omega
        go_wp2_with (first
          | (go_at_call 99; refine (HU.out _).mono ?_; rintro e w' ⟨rfl, rfl⟩)
          | (go_at_call 81; refine (rWrap _ _ (by omega) (by omega)).mono ?_; rintro e w' ⟨rfl, rfl⟩))
        go_round
        case rel => exact ⟨k + 1, sh_lt (Hu.out ▸ hlt) h32, by go_num, by rw [← shl_step, Hx.out]⟩
        case measure => simp [intOf]; omega
      · have h32I : ¬ (k : Int) < 32 := by omega
        have he := sh_ge Hk.out (fun h => h32 h.2)
        go_wp2_with (first
          | (go_at_call 99; refine (HU.out _).mono ?_; rintro e w' ⟨rfl, rfl⟩)
          | (go_at_call 81; refine (rWrap _ _ (by omega) (by omega)).mono ?_; rintro e w' ⟨rfl, rfl⟩))
        go_ret
        exact ⟨ri_eq (by rw [← Hx.out, shlF, he]), rfl⟩
    · have he := sh_ge Hk.out (fun h => hlt (Hu.out ▸ h.1))
      go_wp2_with (first
          | (go_at_call 99; refine (HU.out _).mono ?_; rintro e w' ⟨rfl, rfl⟩)
          | (go_at_call 81; refine (rWrap _ _ (by omega) (by omega)).mono ?_; rintro e w' ⟨rfl, rfl⟩))
      go_ret
      exact ⟨ri_eq (by rw [← Hx.out, shlF, he]), rfl⟩

theorem rShr (a n : Int) (w : World) (ha : is32 a) (hn : is32 n) : Calls Tryz.prog 85 #[.int .i32 a, .int .i32 n] w (RetQ (.int .i32 (shrF a n)) w) := by
  have HU := Lib.hid (fun w => rUns n w hn)
  have HA := Lib.hid (fun w => rUns a w ha)
  obtain ⟨u0, u1⟩ : 0 ≤ u32 n ∧ u32 n < 4294967296 := u32_bounds n
  obtain ⟨u, hu⟩ : ∃ u, u32 n = u := ⟨_, rfl⟩
  rw [hu] at u0 u1 HU
  have Hu := Lib.hid hu; clear hu
  have hsh : sh n ≤ 32 := by unfold sh; omega
  obtain ⟨z0, z1⟩ : 0 ≤ u32 a ∧ u32 a < 4294967296 := u32_bounds a
  have hF : shrF a n = wrap32 (u32 a / 2 ^ sh n) := rfl
  rw [hF]; clear hF
  obtain ⟨z, hz⟩ : ∃ z, u32 a = z := ⟨_, rfl⟩
  rw [hz] at z0 z1 HA ⊢
  clear hz
  have tok : True := trivial
  go_enter Tryz.func85, Tryz.ntmps85
  go_wp2_with (first
        | (go_at_call 99; refine (HA.out _).mono ?_; rintro e w' ⟨rfl, rfl⟩))
  go_loop [5, 6] (fun t i => ∃ k : Nat, k ≤ sh n ∧ i = .int .i64 k ∧ t = .int .i64 (z / 2 ^ k)) (fun _ i => 32 - (intOf i).toNat)
  case atStart => exact ⟨0, Nat.zero_le _, rfl, by simp⟩
  case round =>
    obtain ⟨k, hk, rfl, rfl⟩ := hrel
    obtain ⟨x, hx⟩ : ∃ x, z / 2 ^ k = x := ⟨_, rfl⟩
    have x0 : 0 ≤ z / 2 ^ k := Int.ediv_nonneg z0 (Int.pow_nonneg (by decide))
    have x1 : z / 2 ^ k ≤ z := Int.ediv_le_self _ z0
    rw [hx] at x0 x1 ⊢
    have Hx := Lib.hid hx; clear hx
    have hk32 : k ≤ 32 := by omega
    have Hk := Lib.hid hk; clear hk hsh
    by_cases hlt : (k : Int) < u
    · by_cases h32 : k < 32
      · have h32I : (k : Int) < 32 := by omega
        go_wp2_with (first
          | (go_at_call 99; refine (HU.out _).mono ?_; rintro e w' ⟨rfl, rfl⟩)
          | (go_at_call 81; refine (rWrap _ _ (by omega) (by omega)).mono ?_; rintro e w' ⟨rfl, rfl⟩))
        go_round
        case rel => exact ⟨k + 1, sh_lt (Hu.out ▸ hlt) h32, by go_num, by rw [← shr_step z k z0, Hx.out]⟩
        case measure => simp [intOf]; omega
      · have h32I : ¬ (k : Int) < 32 := by omega
        have he := sh_ge Hk.out (fun h => h32 h.2)
        go_wp2_with (first
          | (go_at_call 99; refine (HU.out _).mono ?_; rintro e w' ⟨rfl, rfl⟩)
          | (go_at_call 81; refine (rWrap _ _ (by omega) (by omega)).mono ?_; rintro e w' ⟨rfl, rfl⟩))
        go_ret
        exact ⟨ri_eq (by rw [← Hx.out, he]), rfl⟩
    · have he := sh_ge Hk.out (fun h => hlt (Hu.out ▸ h.1))
      go_wp2_with (first
          | (go_at_call 99; refine (HU.out _).mono ?_; rintro e w' ⟨rfl, rfl⟩)
          | (go_at_call 81; refine (rWrap _ _ (by omega) (by omega)).mono ?_; rintro e w' ⟨rfl, rfl⟩))
      go_ret
      exact ⟨ri_eq (by rw [← Hx.out, he]), rfl⟩
end Go.Proofs.YtbefmlioampgcaaGreatDoor

/- The numbers of this program's functions, types and variables that the library's contracts ask for. -/
namespace Go.Proofs
open Go.Shelf
def Tryz.laysM171_ren : Go.Shelf.Ren := ⟨fun | 171 => 93 | 243 => 103 | 246 => 106 | 283 => 110 | 284 => 111 | 285 => 112 | 286 => 113 | 129 => 118 | 317 => 117 | 318 => 119 | 319 => 120 | 320 => 121 | 337 => 124 | 338 => 125 | n => n, fun | 3 => 3 | 9 => 9 | 2 => 2 | 4 => 4 | 171 => 149 | 0 => 0 | 53 => 128 | 37 => 133 | 5 => 5 | 173 => 152 | 212 => 159 | 51 => 126 | 20 => 20 | 213 => 160 | 46 => 95 | 232 => 180 | 233 => 181 | n => n, fun | 17 => 3 | 18 => 6 | 19 => 7 | n => n⟩
theorem Tryz.laysM171 : Go.Proofs.LaysM.n171 Tryz.prog Tryz.laysM171_ren := {
  mixed := by kernel_rfl
  f129 := Tryz.func118.trans (congrArg some (by kernel_rfl))
  f171 := Tryz.func93.trans (congrArg some (by kernel_rfl))
  f243 := Tryz.func103.trans (congrArg some (by kernel_rfl))
  f246 := Tryz.func106.trans (congrArg some (by kernel_rfl))
  f283 := Tryz.func110.trans (congrArg some (by kernel_rfl))
  f284 := Tryz.func111.trans (congrArg some (by kernel_rfl))
  f285 := Tryz.func112.trans (congrArg some (by kernel_rfl))
  f286 := Tryz.func113.trans (congrArg some (by kernel_rfl))
  f317 := Tryz.func117.trans (congrArg some (by kernel_rfl))
  f318 := Tryz.func119.trans (congrArg some (by kernel_rfl))
  f319 := Tryz.func120.trans (congrArg some (by kernel_rfl))
  f320 := Tryz.func121.trans (congrArg some (by kernel_rfl))
  f337 := Tryz.func124.trans (congrArg some (by kernel_rfl))
  f338 := Tryz.func125.trans (congrArg some (by kernel_rfl))
  t0 := Tryz.underlying0
  a0 := Tryz.isAgg0
  z0 := Tryz.sizeOf0
  v0 := Tryz.zeroValue0
  t2 := Tryz.underlying2
  a2 := Tryz.isAgg2
  z2 := Tryz.sizeOf2
  v2 := Tryz.zeroValue2
  t3 := Tryz.underlying3
  a3 := Tryz.isAgg3
  z3 := Tryz.sizeOf3
  v3 := Tryz.zeroValue3
  t4 := Tryz.underlying4
  a4 := Tryz.isAgg4
  z4 := Tryz.sizeOf4
  v4 := Tryz.zeroValue4
  t5 := Tryz.underlying5
  a5 := Tryz.isAgg5
  z5 := Tryz.sizeOf5
  v5 := Tryz.zeroValue5
  t9 := Tryz.underlying9
  a9 := Tryz.isAgg9
  z9 := Tryz.sizeOf9
  v9 := Tryz.zeroValue9
  t20 := Tryz.underlying20
  a20 := Tryz.isAgg20
  z20 := Tryz.sizeOf20
  v20 := Tryz.zeroValue20
  t37 := Tryz.underlying133
  a37 := Tryz.isAgg133
  z37 := Tryz.sizeOf133
  v37 := Tryz.zeroValue133
  t46 := Tryz.underlying95
  a46 := Tryz.isAgg95
  z46 := Tryz.sizeOf95
  v46 := Tryz.zeroValue95
  t51 := Tryz.underlying126
  a51 := Tryz.isAgg126
  z51 := Tryz.sizeOf126
  v51 := Tryz.zeroValue126
  t53 := Tryz.underlying128
  a53 := Tryz.isAgg128
  z53 := Tryz.sizeOf128
  v53 := Tryz.zeroValue128
  t171 := Tryz.underlying149
  a171 := Tryz.isAgg149
  z171 := Tryz.sizeOf149
  v171 := Tryz.zeroValue149
  t173 := Tryz.underlying152
  a173 := Tryz.isAgg152
  z173 := Tryz.sizeOf152
  v173 := Tryz.zeroValue152
  t212 := Tryz.underlying159
  a212 := Tryz.isAgg159
  z212 := Tryz.sizeOf159
  v212 := Tryz.zeroValue159
  t213 := Tryz.underlying160
  a213 := Tryz.isAgg160
  z213 := Tryz.sizeOf160
  t232 := Tryz.underlying180
  a232 := Tryz.isAgg180
  z232 := Tryz.sizeOf180
  v232 := Tryz.zeroValue180
  t233 := Tryz.underlying181
  a233 := Tryz.isAgg181
  z233 := Tryz.sizeOf181
  v233 := Tryz.zeroValue181
  g17 := by kernel_rfl
  g18 := by kernel_rfl
  g19 := by kernel_rfl
  i0 := by kernel_rfl
  i2 := by kernel_rfl
  i3 := by kernel_rfl
  i4 := by kernel_rfl
  i5 := by kernel_rfl
  i9 := by kernel_rfl
  i20 := by kernel_rfl
  i37 := by kernel_rfl
  i46 := by kernel_rfl
  i51 := by kernel_rfl
  i53 := by kernel_rfl
  i171 := by kernel_rfl
  i173 := by kernel_rfl
  i212 := by kernel_rfl
  i232 := by kernel_rfl
  i233 := by kernel_rfl
  m17 := by kernel_rfl
  m18 := by kernel_rfl
  m19 := by kernel_rfl }
def Tryz.lays137_ren : Go.Shelf.Ren := ⟨fun | 137 => 107 | 217 => 114 | 266 => 122 | n => n, fun | 9 => 9 | 5 => 5 | 3 => 3 | n => n, fun | n => n⟩
theorem Tryz.lays137 : Go.Proofs.Lays.n137 Tryz.prog Tryz.lays137_ren := {
  mixed := by kernel_rfl
  f137 := Tryz.func107.trans (congrArg some (by kernel_rfl))
  f217 := Tryz.func114.trans (congrArg some (by kernel_rfl))
  f266 := Tryz.func122.trans (congrArg some (by kernel_rfl))
  t3 := Tryz.underlying3
  a3 := Tryz.isAgg3
  z3 := Tryz.sizeOf3
  v3 := Tryz.zeroValue3
  t5 := Tryz.underlying5
  a5 := Tryz.isAgg5
  z5 := Tryz.sizeOf5
  v5 := Tryz.zeroValue5
  t9 := Tryz.underlying9
  a9 := Tryz.isAgg9
  z9 := Tryz.sizeOf9
  v9 := Tryz.zeroValue9 }
def Tryz.lays157_ren : Go.Shelf.Ren := ⟨fun | 157 => 109 | 229 => 115 | 199 => 116 | 261 => 123 | 311 => 126 | 312 => 127 | n => n, fun | 9 => 9 | 31 => 147 | 3 => 3 | 5 => 5 | 4 => 4 | 119 => 154 | 0 => 0 | 40 => 156 | 152 => 163 | 21 => 21 | 154 => 165 | 51 => 126 | 141 => 167 | 196 => 172 | 193 => 169 | 198 => 175 | 49 => 173 | 194 => 170 | 201 => 178 | 226 => 182 | 46 => 95 | 227 => 183 | n => n, fun | 0 => 2 | 6 => 4 | n => n⟩
theorem Tryz.lays157 : Go.Proofs.Lays.n157 Tryz.prog Tryz.lays157_ren := {
  mixed := by kernel_rfl
  f157 := Tryz.func109.trans (congrArg some (by kernel_rfl))
  f199 := Tryz.func116.trans (congrArg some (by kernel_rfl))
  f229 := Tryz.func115.trans (congrArg some (by kernel_rfl))
  f261 := Tryz.func123.trans (congrArg some (by kernel_rfl))
  f311 := Tryz.func126.trans (congrArg some (by kernel_rfl))
  f312 := Tryz.func127.trans (congrArg some (by kernel_rfl))
  t0 := Tryz.underlying0
  a0 := Tryz.isAgg0
  z0 := Tryz.sizeOf0
  v0 := Tryz.zeroValue0
  t3 := Tryz.underlying3
  a3 := Tryz.isAgg3
  z3 := Tryz.sizeOf3
  v3 := Tryz.zeroValue3
  t4 := Tryz.underlying4
  a4 := Tryz.isAgg4
  z4 := Tryz.sizeOf4
  v4 := Tryz.zeroValue4
  t5 := Tryz.underlying5
  a5 := Tryz.isAgg5
  z5 := Tryz.sizeOf5
  v5 := Tryz.zeroValue5
  t9 := Tryz.underlying9
  a9 := Tryz.isAgg9
  z9 := Tryz.sizeOf9
  v9 := Tryz.zeroValue9
  t21 := Tryz.underlying21
  a21 := Tryz.isAgg21
  z21 := Tryz.sizeOf21
  v21 := Tryz.zeroValue21
  t31 := Tryz.underlying147
  a31 := Tryz.isAgg147
  z31 := Tryz.sizeOf147
  v31 := Tryz.zeroValue147
  t40 := Tryz.underlying156
  a40 := Tryz.isAgg156
  z40 := Tryz.sizeOf156
  v40 := Tryz.zeroValue156
  t46 := Tryz.underlying95
  a46 := Tryz.isAgg95
  z46 := Tryz.sizeOf95
  v46 := Tryz.zeroValue95
  t49 := Tryz.underlying173
  a49 := Tryz.isAgg173
  z49 := Tryz.sizeOf173
  v49 := Tryz.zeroValue173
  t51 := Tryz.underlying126
  a51 := Tryz.isAgg126
  z51 := Tryz.sizeOf126
  v51 := Tryz.zeroValue126
  t119 := Tryz.underlying154
  a119 := Tryz.isAgg154
  z119 := Tryz.sizeOf154
  t141 := Tryz.underlying167
  a141 := Tryz.isAgg167
  z141 := Tryz.sizeOf167
  v141 := Tryz.zeroValue167
  t152 := Tryz.underlying163
  a152 := Tryz.isAgg163
  z152 := Tryz.sizeOf163
  v152 := Tryz.zeroValue163
  t154 := Tryz.underlying165
  a154 := Tryz.isAgg165
  z154 := Tryz.sizeOf165
  v154 := Tryz.zeroValue165
  t193 := Tryz.underlying169
  a193 := Tryz.isAgg169
  z193 := Tryz.sizeOf169
  v193 := Tryz.zeroValue169
  t194 := Tryz.underlying170
  a194 := Tryz.isAgg170
  z194 := Tryz.sizeOf170
  v194 := Tryz.zeroValue170
  t196 := Tryz.underlying172
  a196 := Tryz.isAgg172
  z196 := Tryz.sizeOf172
  v196 := Tryz.zeroValue172
  t198 := Tryz.underlying175
  a198 := Tryz.isAgg175
  z198 := Tryz.sizeOf175
  v198 := Tryz.zeroValue175
  t201 := Tryz.underlying178
  a201 := Tryz.isAgg178
  z201 := Tryz.sizeOf178
  v201 := Tryz.zeroValue178
  t226 := Tryz.underlying182
  a226 := Tryz.isAgg182
  z226 := Tryz.sizeOf182
  v226 := Tryz.zeroValue182
  t227 := Tryz.underlying183
  a227 := Tryz.isAgg183
  z227 := Tryz.sizeOf183
  v227 := Tryz.zeroValue183
  g0 := by kernel_rfl
  g6 := by kernel_rfl }
end Go.Proofs
