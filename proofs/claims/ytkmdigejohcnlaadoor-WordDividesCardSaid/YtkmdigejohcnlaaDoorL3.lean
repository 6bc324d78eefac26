/- The laws WordDivides, WordClock and WordRound, walked. -/
import Derived.Test.YtkmdigejohcnlaaDoorL2
namespace Go.Proofs.YtkmdigejohcnlaaDoor
open Go.RowKit
set_option linter.unusedVariables false
set_option linter.unusedSimpArgs false

theorem wsize (n : Int) (w : World) (hn : is32 n) : Calls Tryd.prog 24 #[.int .i32 n] w (RetQ (.int .i64 (n.natAbs : Int)) w) := by
  obtain ⟨a0, a1⟩ := hn
  by_cases h : n < 0
  · go_enter Tryd.func24, Tryd.ntmps24
    go_wp2
    go_ret
    refine ⟨ri_eq ?_, rfl⟩
    omega
  · go_enter Tryd.func24, Tryd.ntmps24
    go_wp2
    go_ret
    refine ⟨ri_eq ?_, rfl⟩
    omega

theorem divides_true (B : Nat) (a b : Int) (w : World) (ha : is32 a) (hb : is32 b) (hL : Laid B w) (hB : B ≤ w.heap.size) : Calls Tryd.prog 5 #[.int .i32 a, .int .i32 b] w (RetV (.bool true) w) := by
  have hW := Lib.hid (works_yes B w hL hB)
  have h22 := fun w => wDiv a b w ha hb
  have h23 := fun w => wRem a b w ha hb
  by_cases h0 : b = 0
  · subst h0
    have e1 : divF a 0 = .tuple #[.int .i32 0, .bool true] := by simp [divF, rv]
    have e2 : remF a 0 = .tuple #[.int .i32 0, .bool true] := by simp [remF, rv]
    rw [e1] at h22
    rw [e2] at h23
    have H22 := Lib.hid h22
    have H23 := Lib.hid h23
    clear h22 h23 e1 e2 ha hb hL
    go_enter Tryd.func5, Tryd.ntmps5
    go_wp2_with (first
      | (go_at_call 22; refine (H22.out _).mono ?_; rintro e w1 ⟨rfl, rfl⟩)
      | (go_at_call 23; refine (H23.out _).mono ?_; rintro e w1 ⟨rfl, rfl⟩)
      | (go_at_call 17; refine hW.out.mono ?_; rintro e w2 ⟨rfl, hb2⟩))
    go_ret
    exact ⟨rfl, hb2⟩
  · have t0 : (b == 0) = false := by simpa using h0
    by_cases h1 : a = -2147483648 ∧ b = -1
    · obtain ⟨rfl, rfl⟩ := h1
      have e1 : divF (-2147483648) (-1) = .tuple #[.int .i32 0, .bool true] := by simp [divF, rv]
      have e2 : remF (-2147483648) (-1) = .tuple #[.int .i32 0, .bool false] := by simp [remF, rv]
      rw [e1] at h22
      rw [e2] at h23
      have H22 := Lib.hid h22
      have H23 := Lib.hid h23
      clear h22 h23 e1 e2 ha hb hL
      go_enter Tryd.func5, Tryd.ntmps5
      go_wp2_with (first
        | (go_at_call 22; refine (H22.out _).mono ?_; rintro e w1 ⟨rfl, rfl⟩)
        | (go_at_call 23; refine (H23.out _).mono ?_; rintro e w1 ⟨rfl, rfl⟩)
        | (go_at_call 17; refine hW.out.mono ?_; rintro e w2 ⟨rfl, hb2⟩))
      go_ret
      exact ⟨rfl, hb2⟩
    · have e1 : divF a b = .tuple #[.int .i32 (a.tdiv b), .bool false] := by rw [divF, if_neg (fun h => h.elim h0 h1)]; rfl
      have e2 : remF a b = .tuple #[.int .i32 (a.tmod b), .bool false] := by rw [remF, if_neg h0]; rfl
      rw [e1] at h22
      rw [e2] at h23
      have hq : is32 (a.tdiv b) := by
        have h3 := divF_quoA a b ha hb h0
        have ht : a.tdiv b = quoA a b := by rw [tdiv_abs]; unfold quoA; split <;> simp_all
        by_cases hf : fits (quoA a b) = true
        · rw [ht]; unfold fits at hf; simp at hf; unfold is32; omega
        · rw [if_neg hf, e1] at h3
          simp [rv] at h3
      have hr : is32 (a.tmod b) := tmod_is32 ha b
      have he : b * a.tdiv b + a.tmod b = a := Int.mul_tdiv_add_tmod a b
      have hlt : ((a.tmod b).natAbs : Int) < (b.natAbs : Int) := by
        have h3 := Int.natAbs_tmod a b
        have h4 := Nat.mod_lt a.natAbs (show 0 < b.natAbs by omega)
        omega
      have hsg : 0 ≤ a * a.tmod b := by
        by_cases hx : 0 ≤ a
        · exact Int.mul_nonneg hx (Int.tmod_nonneg b hx)
        · have h3 : a.tmod b ≤ 0 := by
            have h4 := Int.tmod_nonneg b (show 0 ≤ -a by omega)
            rw [Int.neg_tmod] at h4; omega
          have := Int.mul_nonneg (show 0 ≤ -a by omega) (show 0 ≤ -(a.tmod b) by omega)
          rw [Int.neg_mul_neg] at this; exact this
      obtain ⟨m0, m1⟩ := mul_bound hb hq
      obtain ⟨l0, l1⟩ := mul_bound ha hr
      have H24 := Lib.hid (fun w => wsize _ w hr)
      have H24' := Lib.hid (fun w => wsize b w hb)
      obtain ⟨a0, a1⟩ := ha
      obtain ⟨b0, b1⟩ := hb
      obtain ⟨q0, q1⟩ := hq
      obtain ⟨r0, r1⟩ := hr
      generalize a.tdiv b = q at *
      generalize a.tmod b = r at *
      generalize b.natAbs = B1 at *
      generalize r.natAbs = R1 at *
      have H22 := Lib.hid h22
      have H23 := Lib.hid h23
      have t1 : (b * q + r == a) = true := by simpa using he
      have t2 : R1 < B1 := by omega
      have tb : a = -2147483648 → (b == -1) = false := fun h => by
        have : ¬ b = -1 := fun h' => h1 ⟨h, h'⟩
        simpa using this
      clear h22 h23 e1 e2 hL he hlt h1
      have tok : True := trivial
      by_cases h2 : a = -2147483648
      · have t3 := tb h2
        subst h2
        clear tb
        go_enter Tryd.func5, Tryd.ntmps5
        go_wp2_with (first
          | (go_at_call 22; refine (H22.out _).mono ?_; rintro e w1 ⟨rfl, rfl⟩)
          | (go_at_call 23; refine (H23.out _).mono ?_; rintro e w1 ⟨rfl, rfl⟩)
          | (go_at_call 24; have _t := tok; refine (H24.out _).mono ?_; clear tok; rintro e w1 ⟨rfl, rfl⟩)
          | (go_at_call 24; refine (H24'.out _).mono ?_; rintro e w1 ⟨rfl, rfl⟩)
          | (go_at_call 17; refine hW.out.mono ?_; rintro e w2 ⟨rfl, hb2⟩))
        go_ret
        exact ⟨rfl, hb2⟩
      · have t3 : (a == -2147483648) = false := by simpa using h2
        clear tb h2
        go_enter Tryd.func5, Tryd.ntmps5
        go_wp2_with (first
          | (go_at_call 22; refine (H22.out _).mono ?_; rintro e w1 ⟨rfl, rfl⟩)
          | (go_at_call 23; refine (H23.out _).mono ?_; rintro e w1 ⟨rfl, rfl⟩)
          | (go_at_call 24; have _t := tok; refine (H24.out _).mono ?_; clear tok; rintro e w1 ⟨rfl, rfl⟩)
          | (go_at_call 24; refine (H24'.out _).mono ?_; rintro e w1 ⟨rfl, rfl⟩)
          | (go_at_call 17; refine hW.out.mono ?_; rintro e w2 ⟨rfl, hb2⟩))
        go_ret
        exact ⟨rfl, hb2⟩
end Go.Proofs.YtkmdigejohcnlaaDoor
