/- The reference's division and shifts, walked. -/
import Derived.Test.YtkmdigejohcnlaaDoorW3
namespace Go.Proofs.YtkmdigejohcnlaaDoor
open Go.RowKit
set_option linter.unusedVariables false
set_option linter.unusedSimpArgs false

/-- The quotient by absolute values. -/
def quoA (a b : Int) : Int := if (a < 0) = (b < 0) then ((a.natAbs / b.natAbs : Nat) : Int) else -((a.natAbs / b.natAbs : Nat) : Int)

theorem quoA_bounds (a b : Int) (ha : is32 a) : a.natAbs / b.natAbs ≤ 2147483648 ∧ -2147483648 ≤ quoA a b ∧ quoA a b ≤ 2147483648 := by
  obtain ⟨a0, a1⟩ := ha
  have hle := Nat.div_le_self a.natAbs b.natAbs
  have : a.natAbs / b.natAbs ≤ 2147483648 := by omega
  unfold quoA
  generalize a.natAbs / b.natAbs = q at this
  refine ⟨this, ?_, ?_⟩ <;> split <;> omega

theorem divF_quoA (a b : Int) (ha : is32 a) (hb : is32 b) (h0 : ¬ b = 0) :
    divF a b = if fits (quoA a b) = true then rv (quoA a b) false else rv 0 true := by
  have ht : a.tdiv b = quoA a b := by rw [tdiv_abs]; unfold quoA; split <;> simp_all
  obtain ⟨-, l, u⟩ := quoA_bounds a b ha
  by_cases h1 : a = -2147483648 ∧ b = -1
  · rw [divF, if_pos (.inr h1)]
    obtain ⟨rfl, rfl⟩ := h1
    rfl
  · rw [divF, if_neg (fun h => h.elim h0 h1), ht]
    have : ¬ quoA a b = 2147483648 := fun h => by
      obtain ⟨a0, a1⟩ := ha
      obtain ⟨b0, b1⟩ := hb
      unfold quoA at h
      split at h
      · rename_i hs
        have hq : a.natAbs / b.natAbs = 2147483648 := by
          generalize a.natAbs / b.natAbs = q at h
          omega
        have hle := Nat.div_le_self a.natAbs b.natAbs
        have hn : b.natAbs = 1 := by
          rcases Nat.lt_or_ge 1 b.natAbs with h3 | h3
          · have := Nat.div_lt_self (n := a.natAbs) (k := b.natAbs) (by omega) h3; omega
          · omega
        have h3 : ¬ (b = 1) := fun h => by
          subst h
          have h4 : ¬ a < 0 := by simpa using hs
          omega
        omega
      · generalize a.natAbs / b.natAbs = q at h
        omega
    rw [if_pos (by simp [fits]; omega)]

theorem rDiv (a b : Int) (w : World) (ha : is32 a) (hb : is32 b) : Calls Tryd.prog 29 #[.int .i32 a, .int .i32 b] w (RetQ (divF a b) w) := by
  have HA := Lib.hid (fun w => rsize a w ha)
  have HB := Lib.hid (fun w => rsize b w hb)
  by_cases h0 : b = 0
  · subst h0
    have e : divF a 0 = rv 0 true := by simp [divF]
    rw [e]
    go_enter Tryd.func29, Tryd.ntmps29
    go_wp2
    go_ret2
    exact ⟨rv_eq rfl rfl, rfl⟩
  · rw [divF_quoA a b ha hb h0]
    obtain ⟨hq, hl, hu⟩ := quoA_bounds a b ha
    have hqa : quoA a b = if (a < 0) = (b < 0) then ((a.natAbs / b.natAbs : Nat) : Int) else -((a.natAbs / b.natAbs : Nat) : Int) := rfl
    obtain ⟨t, ht⟩ : ∃ t, quoA a b = t := ⟨_, rfl⟩
    rw [ht] at hl hu hqa ⊢
    obtain ⟨a0, a1⟩ := ha
    obtain ⟨b0, b1⟩ := hb
    obtain ⟨m, hm⟩ : ∃ m, a.natAbs = m := ⟨_, rfl⟩
    obtain ⟨n, hn⟩ : ∃ n, b.natAbs = n := ⟨_, rfl⟩
    rw [hm] at HA hq hqa
    rw [hn] at HB hq hqa
    have hm31 : m ≤ 2147483648 := by omega
    have hn0 : 0 < n := by omega
    have hn31 : n ≤ 2147483648 := by omega
    have hn0I : ¬ ((n : Int) = 0) := by omega
    have t0 : (b == 0) = false := by simpa using h0
    have HW : Hid (wrap64 ((m : Int) / (n : Int)) = ((m / n : Nat) : Int)) := Lib.hid (by
      have : (m : Int) / (n : Int) = ((m / n : Nat) : Int) := rfl
      rw [this]; unfold wrap64
      generalize m / n = q at hq ⊢
      omega)
    have HV : Hid (wrap64 (-wrap64 ((m : Int) / (n : Int))) = -((m / n : Nat) : Int)) := Lib.hid (by
      rw [HW.out]; unfold wrap64
      generalize m / n = q at hq ⊢
      omega)
    have tok : True := trivial
    by_cases hf : fits t = true
    · rw [if_pos hf]
      have HF := Lib.hid hf
      have hf2 := hf
      unfold fits at hf2
      simp only [Bool.and_eq_true, decide_eq_true_eq] at hf2
      obtain ⟨t1, t2⟩ := hf2
      clear hf hl hu
      by_cases hs : (a < 0) = (b < 0)
      · rw [if_pos hs] at hqa
        have hd : (decide (a < 0) == decide (b < 0)) = true := by simp [hs]
        have HT := Lib.hid (HW.out.trans hqa.symm); clear hqa ht hs HW HV
        go_enter Tryd.func29, Tryd.ntmps29
        go_wp2_with (first
          | (go_at_call 55; have _t := tok; refine (HA.out _).mono ?_; clear tok; rintro e w' ⟨rfl, rfl⟩)
          | (go_at_call 55; refine (HB.out _).mono ?_; rintro e w' ⟨rfl, rfl⟩)
          | (go_at_call 57; rw [HT.out]; refine (rFits _ _).mono ?_; rw [HF.out]; rintro e w' ⟨rfl, rfl⟩))
        go_ret2
        exact ⟨rv_eq rfl rfl, rfl⟩
      · rw [if_neg hs] at hqa
        have hd : (decide (a < 0) == decide (b < 0)) = false := by simpa using hs
        have HT := Lib.hid (HV.out.trans hqa.symm); clear hqa ht hs HW HV
        go_enter Tryd.func29, Tryd.ntmps29
        go_wp2_with (first
          | (go_at_call 55; have _t := tok; refine (HA.out _).mono ?_; clear tok; rintro e w' ⟨rfl, rfl⟩)
          | (go_at_call 55; refine (HB.out _).mono ?_; rintro e w' ⟨rfl, rfl⟩)
          | (go_at_call 57; rw [HT.out]; refine (rFits _ _).mono ?_; rw [HF.out]; rintro e w' ⟨rfl, rfl⟩))
        go_ret2
        exact ⟨rv_eq rfl rfl, rfl⟩
    · rw [if_neg hf]
      have HF : Hid (fits t = false) := Lib.hid (by simpa using hf)
      clear hf hl hu
      by_cases hs : (a < 0) = (b < 0)
      · rw [if_pos hs] at hqa
        have hd : (decide (a < 0) == decide (b < 0)) = true := by simp [hs]
        have HT := Lib.hid (HW.out.trans hqa.symm); clear hqa ht hs HW HV
        go_enter Tryd.func29, Tryd.ntmps29
        go_wp2_with (first
          | (go_at_call 55; have _t := tok; refine (HA.out _).mono ?_; clear tok; rintro e w' ⟨rfl, rfl⟩)
          | (go_at_call 55; refine (HB.out _).mono ?_; rintro e w' ⟨rfl, rfl⟩)
          | (go_at_call 57; rw [HT.out]; refine (rFits _ _).mono ?_; rw [HF.out]; rintro e w' ⟨rfl, rfl⟩))
        go_ret2
        exact ⟨rv_eq rfl rfl, rfl⟩
      · rw [if_neg hs] at hqa
        have hd : (decide (a < 0) == decide (b < 0)) = false := by simpa using hs
        have HT := Lib.hid (HV.out.trans hqa.symm); clear hqa ht hs HW HV
        go_enter Tryd.func29, Tryd.ntmps29
        go_wp2_with (first
          | (go_at_call 55; have _t := tok; refine (HA.out _).mono ?_; clear tok; rintro e w' ⟨rfl, rfl⟩)
          | (go_at_call 55; refine (HB.out _).mono ?_; rintro e w' ⟨rfl, rfl⟩)
          | (go_at_call 57; rw [HT.out]; refine (rFits _ _).mono ?_; rw [HF.out]; rintro e w' ⟨rfl, rfl⟩))
        go_ret2
        exact ⟨rv_eq rfl rfl, rfl⟩

theorem rRem (a b : Int) (w : World) (ha : is32 a) (hb : is32 b) : Calls Tryd.prog 30 #[.int .i32 a, .int .i32 b] w (RetQ (remF a b) w) := by
  have HA := Lib.hid (fun w => rsize a w ha)
  have HB := Lib.hid (fun w => rsize b w hb)
  by_cases h0 : b = 0
  · subst h0
    have e : remF a 0 = rv 0 true := by simp [remF]
    rw [e]
    go_enter Tryd.func30, Tryd.ntmps30
    go_wp2
    go_ret2
    exact ⟨rv_eq rfl rfl, rfl⟩
  · have e : remF a b = rv (a.tmod b) false := by rw [remF, if_neg h0]
    rw [e, tmod_abs]
    obtain ⟨a0, a1⟩ := ha
    obtain ⟨b0, b1⟩ := hb
    obtain ⟨m, hm⟩ : ∃ m, a.natAbs = m := ⟨_, rfl⟩
    obtain ⟨n, hn⟩ : ∃ n, b.natAbs = n := ⟨_, rfl⟩
    rw [hm] at HA ⊢
    rw [hn] at HB ⊢
    have hm31 : m ≤ 2147483648 := by omega
    have hn0 : 0 < n := by omega
    have hn31 : n ≤ 2147483648 := by omega
    have hn0I : ¬ ((n : Int) = 0) := by omega
    have t0 : (b == 0) = false := by simpa using h0
    have hlt := Nat.mod_lt m hn0
    have hle := Nat.mod_le m n
    have HW : Hid (wrap64 ((m : Int) % (n : Int)) = ((m % n : Nat) : Int)) := Lib.hid (by
      have : (m : Int) % (n : Int) = ((m % n : Nat) : Int) := rfl
      rw [this]; unfold wrap64
      generalize m % n = q at hlt ⊢
      omega)
    obtain ⟨r, hr⟩ : ∃ r, m % n = r := ⟨_, rfl⟩
    rw [hr] at hlt hle HW ⊢
    have HR : Hid ((m : Int) % (n : Int) = (r : Int)) := Lib.hid (by rw [← hr]; rfl)
    have tok : True := trivial
    by_cases hs : a < 0
    · rw [if_pos hs]
      go_enter Tryd.func30, Tryd.ntmps30
      go_wp2_with (first
        | (go_at_call 55; have _t := tok; refine (HA.out _).mono ?_; clear tok; rintro e w' ⟨rfl, rfl⟩)
        | (go_at_call 55; refine (HB.out _).mono ?_; rintro e w' ⟨rfl, rfl⟩))
      go_ret2
      exact ⟨rv_eq (by rw [HR.out]) rfl, rfl⟩
    · rw [if_neg hs]
      go_enter Tryd.func30, Tryd.ntmps30
      go_wp2_with (first
        | (go_at_call 55; have _t := tok; refine (HA.out _).mono ?_; clear tok; rintro e w' ⟨rfl, rfl⟩)
        | (go_at_call 55; refine (HB.out _).mono ?_; rintro e w' ⟨rfl, rfl⟩))
      go_ret2
      exact ⟨rv_eq (by rw [HR.out]) rfl, rfl⟩

/-- One more place to the left. -/
theorem shl_step (a : Int) (k : Nat) : wrap32 (2 * wrap32 (a * 2 ^ k)) = wrap32 (a * 2 ^ (k + 1)) := by
  rw [Int.pow_succ, ← Int.mul_assoc]
  generalize a * 2 ^ k = x
  unfold wrap32; omega
theorem shr_step (z : Int) (k : Nat) (h : 0 ≤ z) : z / 2 ^ k / 2 = z / 2 ^ (k + 1) := by
  rw [Int.pow_succ, Int.ediv_ediv_of_nonneg (Int.pow_nonneg (by decide))]
theorem sh_lt {n : Int} {k : Nat} (h1 : (k : Int) < u32 n) (h2 : k < 32) : k < sh n := by unfold sh; omega
theorem sh_ge {n : Int} {k : Nat} (hk : k ≤ sh n) (h1 : ¬ ((k : Int) < u32 n ∧ k < 32)) : k = sh n := by unfold sh at *; omega

theorem rShl (a n : Int) (w : World) (ha : is32 a) (hn : is32 n) : Calls Tryd.prog 14 #[.int .i32 a, .int .i32 n] w (RetQ (.int .i32 (shlF a n)) w) := by
  have HU := Lib.hid (fun w => rUns n w hn)
  obtain ⟨u0, u1⟩ : 0 ≤ u32 n ∧ u32 n < 4294967296 := u32_bounds n
  obtain ⟨u, hu⟩ : ∃ u, u32 n = u := ⟨_, rfl⟩
  rw [hu] at u0 u1 HU
  have Hu := Lib.hid hu; clear hu
  have hsh : sh n ≤ 32 := by unfold sh; omega
  go_enter Tryd.func14, Tryd.ntmps14
  go_wp2_with (first
        | (go_at_call 48; refine (HU.out _).mono ?_; rintro e w' ⟨rfl, rfl⟩))
  go_loop [5, 6] (fun t i => ∃ k : Nat, k ≤ sh n ∧ i = .int .i64 k ∧ t = .int .i32 (wrap32 (a * 2 ^ k))) (fun _ i => 32 - (intOf i).toNat)
  case atStart => exact ⟨0, Nat.zero_le _, rfl, by obtain ⟨a0, a1⟩ := ha; congr 1; unfold wrap32; omega⟩
  case round =>
    obtain ⟨k, hk, rfl, rfl⟩ := hrel
    obtain ⟨x, hx⟩ : ∃ x, wrap32 (a * 2 ^ k) = x := ⟨_, rfl⟩
    have hb := wrap32_is (a * 2 ^ k)
    rw [hx] at hb ⊢
    obtain ⟨x0, x1⟩ := hb
    have Hx := Lib.hid hx; clear hx
    have hk32 : k ≤ 32 := by omega
    have Hk := Lib.hid hk; clear hk hsh
    by_cases hlt : (k : Int) < u
    · by_cases h32 : k < 32
      · have h32I : (k : Int) < 32 := by omega
        go_wp2_with (first
          | (go_at_call 48; refine (HU.out _).mono ?_; rintro e w' ⟨rfl, rfl⟩)
          | (go_at_call 49; refine (rWrap _ _ (by omega) (by omega)).mono ?_; rintro e w' ⟨rfl, rfl⟩))
        go_round
        case rel => exact ⟨k + 1, sh_lt (Hu.out ▸ hlt) h32, by go_num, by rw [← shl_step, Hx.out]⟩
        case measure => simp [intOf]; omega
      · have h32I : ¬ (k : Int) < 32 := by omega
        have he := sh_ge Hk.out (fun h => h32 h.2)
        go_wp2_with (first
          | (go_at_call 48; refine (HU.out _).mono ?_; rintro e w' ⟨rfl, rfl⟩)
          | (go_at_call 49; refine (rWrap _ _ (by omega) (by omega)).mono ?_; rintro e w' ⟨rfl, rfl⟩))
        go_ret
        exact ⟨ri_eq (by rw [← Hx.out, shlF, he]), rfl⟩
    · have he := sh_ge Hk.out (fun h => hlt (Hu.out ▸ h.1))
      go_wp2_with (first
          | (go_at_call 48; refine (HU.out _).mono ?_; rintro e w' ⟨rfl, rfl⟩)
          | (go_at_call 49; refine (rWrap _ _ (by omega) (by omega)).mono ?_; rintro e w' ⟨rfl, rfl⟩))
      go_ret
      exact ⟨ri_eq (by rw [← Hx.out, shlF, he]), rfl⟩

theorem rShr (a n : Int) (w : World) (ha : is32 a) (hn : is32 n) : Calls Tryd.prog 16 #[.int .i32 a, .int .i32 n] w (RetQ (.int .i32 (shrF a n)) w) := by
  have HU := Lib.hid (fun w => rUns n w hn)
  have HA := Lib.hid (fun w => rUns a w ha)
  obtain ⟨u0, u1⟩ : 0 ≤ u32 n ∧ u32 n < 4294967296 := u32_bounds n
  obtain ⟨u, hu⟩ : ∃ u, u32 n = u := ⟨_, rfl⟩
  rw [hu] at u0 u1 HU
  have Hu := Lib.hid hu; clear hu
  have hsh : sh n ≤ 32 := by unfold sh; omega
  obtain ⟨z0, z1⟩ : 0 ≤ u32 a ∧ u32 a < 4294967296 := u32_bounds a
  have hF : shrF a n = wrap32 (u32 a / 2 ^ sh n) := rfl
  rw [hF]; clear hF
  obtain ⟨z, hz⟩ : ∃ z, u32 a = z := ⟨_, rfl⟩
  rw [hz] at z0 z1 HA ⊢
  clear hz
  have tok : True := trivial
  go_enter Tryd.func16, Tryd.ntmps16
  go_wp2_with (first
        | (go_at_call 48; refine (HA.out _).mono ?_; rintro e w' ⟨rfl, rfl⟩))
  go_loop [5, 6] (fun t i => ∃ k : Nat, k ≤ sh n ∧ i = .int .i64 k ∧ t = .int .i64 (z / 2 ^ k)) (fun _ i => 32 - (intOf i).toNat)
  case atStart => exact ⟨0, Nat.zero_le _, rfl, by simp⟩
  case round =>
    obtain ⟨k, hk, rfl, rfl⟩ := hrel
    obtain ⟨x, hx⟩ : ∃ x, z / 2 ^ k = x := ⟨_, rfl⟩
    have x0 : 0 ≤ z / 2 ^ k := Int.ediv_nonneg z0 (Int.pow_nonneg (by decide))
    have x1 : z / 2 ^ k ≤ z := Int.ediv_le_self _ z0
    rw [hx] at x0 x1 ⊢
    have Hx := Lib.hid hx; clear hx
    have hk32 : k ≤ 32 := by omega
    have Hk := Lib.hid hk; clear hk hsh
    by_cases hlt : (k : Int) < u
    · by_cases h32 : k < 32
      · have h32I : (k : Int) < 32 := by omega
        go_wp2_with (first
          | (go_at_call 48; refine (HU.out _).mono ?_; rintro e w' ⟨rfl, rfl⟩)
          | (go_at_call 49; refine (rWrap _ _ (by omega) (by omega)).mono ?_; rintro e w' ⟨rfl, rfl⟩))
        go_round
        case rel => exact ⟨k + 1, sh_lt (Hu.out ▸ hlt) h32, by go_num, by rw [← shr_step z k z0, Hx.out]⟩
        case measure => simp [intOf]; omega
      · have h32I : ¬ (k : Int) < 32 := by omega
        have he := sh_ge Hk.out (fun h => h32 h.2)
        go_wp2_with (first
          | (go_at_call 48; refine (HU.out _).mono ?_; rintro e w' ⟨rfl, rfl⟩)
          | (go_at_call 49; refine (rWrap _ _ (by omega) (by omega)).mono ?_; rintro e w' ⟨rfl, rfl⟩))
        go_ret
        exact ⟨ri_eq (by rw [← Hx.out, he]), rfl⟩
    · have he := sh_ge Hk.out (fun h => hlt (Hu.out ▸ h.1))
      go_wp2_with (first
          | (go_at_call 48; refine (HU.out _).mono ?_; rintro e w' ⟨rfl, rfl⟩)
          | (go_at_call 49; refine (rWrap _ _ (by omega) (by omega)).mono ?_; rintro e w' ⟨rfl, rfl⟩))
      go_ret
      exact ⟨ri_eq (by rw [← Hx.out, he]), rfl⟩
end Go.Proofs.YtkmdigejohcnlaaDoor
