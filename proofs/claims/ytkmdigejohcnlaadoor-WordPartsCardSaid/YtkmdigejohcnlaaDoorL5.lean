/- The law WordParts, walked. -/
import Derived.Test.YtkmdigejohcnlaaDoorL2
namespace Go.Proofs.YtkmdigejohcnlaaDoor
open Go.RowKit
set_option linter.unusedVariables false
set_option linter.unusedSimpArgs false

theorem and_pow (P N : Nat) (h : P < 2 ^ (N + 1)) : P &&& 2 ^ N = if 2 ^ N ≤ P then 2 ^ N else 0 := by
  have h2 : P.testBit N = decide (2 ^ N ≤ P) := by
    rw [Nat.testBit_eq_decide_div_mod_eq]
    rw [Nat.pow_succ] at h
    have hp : 0 < 2 ^ N := Nat.two_pow_pos N
    by_cases h3 : 2 ^ N ≤ P
    · have : P / 2 ^ N = 1 := by
        refine Nat.div_eq_of_lt_le ?_ ?_ <;> omega
      simp [h3, this]
    · have : P / 2 ^ N = 0 := Nat.div_eq_of_lt (by omega)
      simp [h3, this]
  apply Nat.eq_of_testBit_eq
  intro i
  rw [Nat.testBit_and, Nat.testBit_two_pow]
  by_cases hi : N = i
  · subst hi
    rw [h2]
    by_cases h3 : 2 ^ N ≤ P
    · simp [h3, Nat.testBit_two_pow]
    · simp [h3]
  · have e : decide (N = i) = false := by simpa using hi
    rw [e, Bool.and_false]
    split
    · rw [Nat.testBit_two_pow, e]
    · rw [Nat.zero_testBit]
/-- What the law computes with: the sign and the part word. -/
theorem parts_plain (v : Int) (N : Nat) (hN : N ≤ 30) : ∃ sg p x : Int, wrap32 (2 ^ N) = sg ∧ 1 ≤ sg ∧ sg ≤ 1073741824 ∧
    wrap32 (bits .and .u32 (v % 4294967296) ((2 * (sg % 4294967296) - 1) % 4294967296)) = p ∧ 0 ≤ p ∧ p < 2 * sg ∧ xwordF p sg = x ∧ -sg ≤ x ∧ x < sg ∧
    ((x = p ∧ p < sg) ∨ (x = p - 2 * sg ∧ sg ≤ p)) ∧ bits .and .i32 p sg = (if sg ≤ p then sg else 0) := by
  have hp1 : (1 : Int) ≤ 2 ^ N := by
    have h : 1 ≤ 2 ^ N := Nat.one_le_two_pow
    have e2 : (2 : Int) ^ N = ((2 ^ N : Nat) : Int) := by simp
    rw [e2]; omega
  have hp2 : (2 : Int) ^ N ≤ 1073741824 := by
    have h : (2 : Nat) ^ N ≤ 2 ^ 30 := Nat.pow_le_pow_right (by decide) hN
    have e : (2 : Nat) ^ 30 = 1073741824 := by decide
    rw [e] at h
    have e2 : (2 : Int) ^ N = ((2 ^ N : Nat) : Int) := by simp
    rw [e2]; omega
  have hsg : wrap32 (2 ^ N) = 2 ^ N := by unfold wrap32; omega
  have hm : bits .and .u32 (v % 4294967296) ((2 * ((2 : Int) ^ N % 4294967296) - 1) % 4294967296) = v % 4294967296 % (2 * 2 ^ N) := by
    have e1 : (2 * ((2 : Int) ^ N % 4294967296) - 1) % 4294967296 = 2 ^ (N + 1) - 1 := by rw [Int.pow_succ]; omega
    rw [e1, mask_u32 (N + 1) (by omega) _ (by omega) (by omega), Int.pow_succ, Int.mul_comm 2]
  have hb0 : 0 ≤ v % 4294967296 % (2 * 2 ^ N) := Int.emod_nonneg _ (by omega)
  have hb1 : v % 4294967296 % (2 * 2 ^ N) < 2 * 2 ^ N := Int.emod_lt_of_pos _ (by omega)
  refine ⟨2 ^ N, v % 4294967296 % (2 * 2 ^ N), _, hsg, hp1, hp2, ?_, hb0, hb1, rfl, ?_⟩
  · rw [hm]; unfold wrap32; omega
  · generalize v % 4294967296 % (2 * 2 ^ N) = p at hb0 hb1
    have hband : bits .and .i32 p (2 ^ N) = if (2 : Int) ^ N ≤ p then 2 ^ N else 0 := by
      obtain ⟨P, rfl⟩ := Int.eq_ofNat_of_zero_le hb0
      have hP : P < 2 ^ (N + 1) := by
        have e2 : (2 : Int) ^ N = ((2 ^ N : Nat) : Int) := by simp
        have hb2 : ((P : Nat) : Int) < 2 * 2 ^ N := hb1
        rw [e2] at hb2
        rw [Nat.pow_succ]; omega
      have hle : (2 : Nat) ^ (N + 1) ≤ 2 ^ 31 := Nat.pow_le_pow_right (by decide) (by omega)
      have hlt : (2 : Nat) ^ N < 2 ^ 31 := Nat.pow_lt_pow_right (by decide) (by omega)
      have e : ((2 : Int) ^ N) = ((2 ^ N : Nat) : Int) := by simp
      rw [e, (bits_nat .i32 31 (by decide) wraps_i32 P (2 ^ N) (by omega) hlt).1, and_pow P N hP]
      by_cases h3 : 2 ^ N ≤ P
      · have : ((2 ^ N : Nat) : Int) ≤ P := Int.ofNat_le.2 h3
        rw [if_pos h3, if_pos this]
      · have : ¬ ((2 ^ N : Nat) : Int) ≤ P := fun h => h3 (Int.ofNat_le.1 h)
        rw [if_neg h3, if_neg this]; rfl
    generalize (2 : Int) ^ N = sg at *
    have hx : xwordF p sg = if p < sg then p else p - 2 * sg := by
      unfold xwordF u32
      have e1 : p % 4294967296 = p := by omega
      have e2 : sg % 4294967296 = sg := by omega
      rw [e1, e2]
      split
      · rfl
      · unfold wrap32; omega
    rw [hx]
    refine ⟨?_, ?_, ?_, hband⟩ <;> split <;> omega
theorem parts_true (B : Nat) (v k : Int) (w : World) (hv : is32 v) (hk : 0 ≤ k ∧ k ≤ 255) (hL : Laid B w) (hB : B ≤ w.heap.size) : Calls Tryd.prog 7 #[.int .i32 v, .int .u8 k] w (RetV (.bool true) w) := by
  have hW := Lib.hid (works_yes B w hL hB)
  obtain ⟨k0, k1⟩ := hk
  obtain ⟨a0, a1⟩ := hv
  have hN : (k % 31).toNat ≤ 30 := by omega
  have hpl := Lib.hid (parts_plain v _ hN)
  clear hN
  go_enter Tryd.func7, Tryd.ntmps7
  go_wp2_with (fail)
  obtain ⟨sg, p, x, e1, s0, s1, e2, p0, p1, e3, x0, x1, e4, e5⟩ := hpl.out
  rw [e1]
  clear hpl e1
  generalize bits .and .u32 (v % 4294967296) ((2 * (sg % 4294967296) - 1) % 4294967296) = q at e2 ⊢
  rw [e2]
  clear e2
  have h25 := fun w => wXword p sg w ⟨by omega, by omega⟩ ⟨by omega, by omega⟩
  have h26 := fun w => wCword x sg w ⟨by omega, by omega⟩ ⟨by omega, by omega⟩
  have h26' := fun w => wCword p sg w ⟨by omega, by omega⟩ ⟨by omega, by omega⟩
  have hws : wrap32 (-sg) = -sg := by unfold wrap32; omega
  have c1 : cwordF x sg = .tuple #[.int .i32 x, .bool false] := by
    have h1 : ¬ sg ≤ x := by omega
    have h2 : ¬ x < -sg := by omega
    simp [cwordF, rv, hws, h1, h2]
  have c2 : cwordF p sg = .tuple #[.int .i32 p, .bool (decide (sg ≤ p))] := by
    have h2 : ¬ p < -sg := by omega
    simp [cwordF, rv, hws, h2]
  rw [e3] at h25
  rw [c1] at h26
  rw [c2] at h26'
  clear c1 c2 hws e3
  have H25 := Lib.hid h25
  have H26 := Lib.hid h26
  have t1 : ((p - x).tmod (2 * sg) == 0) = true := by
    rcases e4 with ⟨h, _⟩ | ⟨h, _⟩
    · have : p - x = 0 := by omega
      rw [this]; simp
    · have : p - x = 2 * sg := by omega
      rw [this, Int.tmod_self]; rfl
  have t2 : ((p - x) % (2 * sg) == 0) = true := by
    rcases e4 with ⟨h, _⟩ | ⟨h, _⟩
    · have : p - x = 0 := by omega
      rw [this]; simp
    · have : p - x = 2 * sg := by omega
      rw [this, Int.emod_self]; rfl
  have d0 : 0 ≤ p - x := by omega
  have d1 : p - x ≤ 2 * sg := by omega
  have tok : True := trivial
  by_cases h : sg ≤ p
  · rw [if_pos h] at e5
    rw [decide_eq_true h] at h26'
    have H26' := Lib.hid h26'
    have t3 : (sg == 0) = false := by
      have : ¬ sg = 0 := by omega
      simpa using this
    have t4 : (sg != 0) = true := by rw [bne, t3]; rfl
    have T4 := Lib.hid t4
    clear t4
    clear h25 h26 h26' e4 hL
    go_wp2_with (first
      | (go_at_call 25; refine (H25.out _).mono ?_; rintro e w1 ⟨rfl, rfl⟩)
      | (go_at_call 26; have _t := tok; refine (H26.out _).mono ?_; clear tok; rintro e w1 ⟨rfl, rfl⟩)
      | (go_at_call 26; refine (H26'.out _).mono ?_; rintro e w1 ⟨rfl, rfl⟩)
      | (go_at_call 17; refine hW.out.mono ?_; rintro e w2 ⟨rfl, hb2⟩))
    go_ret
    exact ⟨rb_eq T4.out, hb2⟩
  · rw [if_neg h] at e5
    rw [decide_eq_false h] at h26'
    have H26' := Lib.hid h26'
    clear h25 h26 h26' e4 hL
    go_wp2_with (first
      | (go_at_call 25; refine (H25.out _).mono ?_; rintro e w1 ⟨rfl, rfl⟩)
      | (go_at_call 26; have _t := tok; refine (H26.out _).mono ?_; clear tok; rintro e w1 ⟨rfl, rfl⟩)
      | (go_at_call 26; refine (H26'.out _).mono ?_; rintro e w1 ⟨rfl, rfl⟩)
      | (go_at_call 17; refine hW.out.mono ?_; rintro e w2 ⟨rfl, hb2⟩))
    go_ret
    exact ⟨rfl, hb2⟩
end Go.Proofs.YtkmdigejohcnlaaDoor
