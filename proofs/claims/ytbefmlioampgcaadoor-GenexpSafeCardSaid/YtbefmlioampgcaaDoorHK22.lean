/- Texts that belong together, joined: what each one holds is told ahead of it. -/
import Derived.Test.YtbefmlioampgcaaDoorHK21
import Derived.Test.YtbefmlioampgcaaDoorHK19
set_option linter.unusedVariables false
set_option linter.unusedSimpArgs false
/- The document's registers of a valid expression, walked. -/
namespace Go.Proofs.YtbefmlioampgcaaDoor
open Go.RowKit
set_option linter.unusedVariables false
set_option linter.unusedSimpArgs false

theorem regs_three (e : KE) : (regsE e : Int) = 1 ∨ (regsE e : Int) = 2 ∨ (regsE e : Int) = 3 := by
  have := regsE_le e
  omega
set_option maxRecDepth 100000 in
set_option maxHeartbeats 8000000 in
theorem rRegs (e : KE) : e.all (fun x => fieldsB x = true) → ∀ (B : Nat) (w : World), e.In w B → B ≤ w.heap.size →
    Calls Tryd.prog 106 #[.agg e.cells] w (RetV (.int .i64 (regsE e)) w) := by
  induction e using KE.ind with
  | h e ih =>
    intro hall B w hin hB
    have hf := (KE.all_iff.1 hall).1
    have hk := fieldsB_kind hf
    have hpa := (KE.all_iff.1 hall).2
    obtain ⟨W0, hW0⟩ : ∃ W, w.alloc (.cells e.cells 36) = W := ⟨_, rfl⟩
    have K0 : Below w.heap.size w W0 := by rw [← hW0]; exact (Below.refl _ _).alloc (Nat.le_refl _) _
    have b0 : Blk W0 w.heap.size 36 e.cells := by rw [← hW0]; exact Blk.new _ _ _
    have HK0 := Lib.hid K0
    have HB0 := Lib.hid b0
    have hkes := hin.parts
    have HF := Lib.hid hf
    have hk9 : (e.kind : Int) ≤ 255 := by have := hin.one.1.1; omega
    have HC : ∀ x ∈ e.l, Hid (∀ W, Below w.heap.size w W → Calls Tryd.prog 106 #[.agg x.cells] W (RetV (.int .i64 (regsE x)) W)) := fun x hx => Lib.hid fun W hb =>
      ih x hx (hpa x hx) B W ((hin.part hx).below (hb.mono hB)) (Nat.le_trans hB hb.size)
    simp only [KE.cells] at b0 hW0 HB0 ⊢
    clear ih hall hpa
    match hl : e.l with
    | [] =>
      have hans := (regsE_0 hl).1
      rw [hans]
      rw [hl] at b0 hW0 HB0
      simp only [List.length_nil] at b0 hW0 HB0 ⊢
      have c0 := b0.cell 0
      have c1 := b0.cell 1
      have c2 := b0.cell 2
      have c3 := b0.cell 3
      have c4 := b0.cell 4
      have c5 := b0.cell 5
      simp at c0 c1 c2 c3 c4 c5
      have hlt := b0.lt
      clear b0 K0 hk hf hkes HC hl hans hin
      go_enter Tryd.func106, Tryd.ntmps106
      go_wp2
      go_ret
      exact ⟨rfl, HK0.out⟩
    | [a] =>
      have h1 : e.kind = 3 ∨ e.kind = 4 ∨ e.kind = 6 := by rw [hl] at hk; simp at hk; exact hk
      have hans := (regsE_1 hl).1
      rw [hl] at b0 hW0 HB0 hkes
      have HA1 := HC a (by rw [hl]; simp)
      simp only [List.length_cons, List.length_nil, Nat.zero_add] at b0 hW0 HB0 ⊢
      obtain ⟨q, off, hA, hq, hcell⟩ := one_at hkes
      have hqw : q < w.heap.size := Nat.lt_of_lt_of_le hq hB
      obtain ⟨x0, x1, x2, x3, x4, x5⟩ := hcell W0 (K0.mono hB)
      have HCL := Lib.hid hcell
      simp only [KE.cells] at HA1
      rw [hA] at b0 hW0 HB0 ⊢
      have c0 := b0.cell 0
      have c1 := b0.cell 1
      have c2 := b0.cell 2
      have c3 := b0.cell 3
      have c4 := b0.cell 4
      have c5 := b0.cell 5
      simp at c0 c1 c2 c3 c4 c5
      have hlt := b0.lt
      have hq0 : q < W0.heap.size := by omega
      have hr3 := regs_three a
      obtain ⟨RA, hRA⟩ : ∃ K : Int, (regsE a : Int) = K := ⟨_, rfl⟩
      have hansI : (regsE e : Int) = if easyE e.kind e.oper e.tk then RA else if RA = 1 then 2 else RA := by
        rw [hans, ← hRA]
        have := regsE_le a
        split
        · rfl
        · split <;> omega
      obtain ⟨K, hK⟩ : ∃ K : Int, (e.kind : Int) = K := ⟨_, rfl⟩
      obtain ⟨O, hO⟩ : ∃ K : Int, (e.oper : Int) = K := ⟨_, rfl⟩
      obtain ⟨T, hT⟩ : ∃ K : Int, (e.tk : Int) = K := ⟨_, rfl⟩
      obtain ⟨R, hR⟩ : ∃ K : Int, (regsE e : Int) = K := ⟨_, rfl⟩
      have hZ : R = if (K = 4 ∧ (O = 25 ∨ O = 26)) ∨ (K = 6 ∧ T = 1) then RA else if RA = 1 then 2 else RA := by
        rw [← hR, hansI]
        have : easyE e.kind e.oper e.tk = decide ((K = 4 ∧ (O = 25 ∨ O = 26)) ∨ (K = 6 ∧ T = 1)) := by
          unfold easyE
          rw [Bool.eq_iff_iff]
          simp
          omega
        rw [this]
        simp
      have HANS := Lib.hid hZ
      rw [hK, hO, hT] at hW0 HB0 ⊢
      rw [hK] at c0
      rw [hO] at c1
      rw [hT] at c2
      rw [hR]
      rw [hRA] at HA1 hr3
      have hk' : K = 3 ∨ K = 4 ∨ K = 6 := by omega
      clear b0 K0 hk hf hkes HC hl hans hin hcell hA hRA hansI hK hO hT hR HF h1 hk9 HCL hZ
      rcases hk' with rfl | rfl | rfl
      · have : True := trivial
        rcases hr3 with rfl | rfl | rfl
        all_goals
          have hz := HANS.out
          simp at hz
          clear HANS
          subst hz
          go_enter Tryd.func106, Tryd.ntmps106
          go_wp2_with first
            | (go_at_call 106; (with_reducible refine (HA1.out _ HK0.out).mono ?_); rintro e1 w1 ⟨rfl, hb1⟩
               have b1 := HB0.out.call hb1
               have d0 := b1.cell 0
               have d1 := b1.cell 1
               have d2 := b1.cell 2
               have d3 := b1.cell 3
               have d4 := b1.cell 4
               have d5 := b1.cell 5
               simp at d0 d1 d2 d3 d4 d5
               clear b1)
          go_ret
          exact ⟨rfl, HK0.out.trans (hb1.mono HK0.out.size)⟩
      · by_cases h25 : O = 25
        · subst h25
          rcases hr3 with rfl | rfl | rfl
          all_goals
            have hz := HANS.out
            simp at hz
            clear HANS
            subst hz
            go_enter Tryd.func106, Tryd.ntmps106
            go_wp2_with first
              | (go_at_call 106; (with_reducible refine (HA1.out _ HK0.out).mono ?_); rintro e1 w1 ⟨rfl, hb1⟩
                 have b1 := HB0.out.call hb1
                 have d0 := b1.cell 0
                 have d1 := b1.cell 1
                 have d2 := b1.cell 2
                 have d3 := b1.cell 3
                 have d4 := b1.cell 4
                 have d5 := b1.cell 5
                 simp at d0 d1 d2 d3 d4 d5
                 clear b1)
            go_ret
            exact ⟨rfl, HK0.out.trans (hb1.mono HK0.out.size)⟩
        by_cases h26 : O = 26
        · subst h26
          rcases hr3 with rfl | rfl | rfl
          all_goals
            have hz := HANS.out
            simp at hz
            clear HANS
            subst hz
            go_enter Tryd.func106, Tryd.ntmps106
            go_wp2_with first
              | (go_at_call 106; (with_reducible refine (HA1.out _ HK0.out).mono ?_); rintro e1 w1 ⟨rfl, hb1⟩
                 have b1 := HB0.out.call hb1
                 have d0 := b1.cell 0
                 have d1 := b1.cell 1
                 have d2 := b1.cell 2
                 have d3 := b1.cell 3
                 have d4 := b1.cell 4
                 have d5 := b1.cell 5
                 simp at d0 d1 d2 d3 d4 d5
                 clear b1)
            go_ret
            exact ⟨rfl, HK0.out.trans (hb1.mono HK0.out.size)⟩
        have b25 : (O == 25) = false := by simpa using h25
        have b26 : (O == 26) = false := by simpa using h26
        simp only [h25, h26, or_self, and_false, false_or] at HANS
        rcases hr3 with rfl | rfl | rfl
        all_goals
          have hz := HANS.out
          simp at hz
          clear HANS
          subst hz
          go_enter Tryd.func106, Tryd.ntmps106
          go_wp2_with first
            | (go_at_call 106; (with_reducible refine (HA1.out _ HK0.out).mono ?_); rintro e1 w1 ⟨rfl, hb1⟩
               have b1 := HB0.out.call hb1
               have d0 := b1.cell 0
               have d1 := b1.cell 1
               have d2 := b1.cell 2
               have d3 := b1.cell 3
               have d4 := b1.cell 4
               have d5 := b1.cell 5
               simp at d0 d1 d2 d3 d4 d5
               clear b1)
          go_ret
          exact ⟨rfl, HK0.out.trans (hb1.mono HK0.out.size)⟩
      · by_cases hT1 : T = 1
        · subst hT1
          rcases hr3 with rfl | rfl | rfl
          all_goals
            have hz := HANS.out
            simp at hz
            clear HANS
            subst hz
            go_enter Tryd.func106, Tryd.ntmps106
            go_wp2_with first
              | (go_at_call 106; (with_reducible refine (HA1.out _ HK0.out).mono ?_); rintro e1 w1 ⟨rfl, hb1⟩
                 have b1 := HB0.out.call hb1
                 have d0 := b1.cell 0
                 have d1 := b1.cell 1
                 have d2 := b1.cell 2
                 have d3 := b1.cell 3
                 have d4 := b1.cell 4
                 have d5 := b1.cell 5
                 simp at d0 d1 d2 d3 d4 d5
                 clear b1)
            go_ret
            exact ⟨rfl, HK0.out.trans (hb1.mono HK0.out.size)⟩
        have bT : (T == 1) = false := by simpa using hT1
        simp only [hT1, and_false, or_false] at HANS
        rcases hr3 with rfl | rfl | rfl
        all_goals
          have hz := HANS.out
          simp at hz
          clear HANS
          subst hz
          go_enter Tryd.func106, Tryd.ntmps106
          go_wp2_with first
            | (go_at_call 106; (with_reducible refine (HA1.out _ HK0.out).mono ?_); rintro e1 w1 ⟨rfl, hb1⟩
               have b1 := HB0.out.call hb1
               have d0 := b1.cell 0
               have d1 := b1.cell 1
               have d2 := b1.cell 2
               have d3 := b1.cell 3
               have d4 := b1.cell 4
               have d5 := b1.cell 5
               simp at d0 d1 d2 d3 d4 d5
               clear b1)
          go_ret
          exact ⟨rfl, HK0.out.trans (hb1.mono HK0.out.size)⟩
    | [a, b] =>
      have h1 : e.kind = 5 := by rw [hl] at hk; simp at hk; exact hk
      have hans := (regsE_2 hl).1
      rw [hl] at b0 hW0 HB0 hkes
      have HA1 := HC a (by rw [hl]; simp)
      have HA2 := HC b (by rw [hl]; simp)
      simp only [List.length_cons, List.length_nil, Nat.zero_add] at b0 hW0 HB0 ⊢
      obtain ⟨q, off, hA, hq, hcell⟩ := two_at hkes
      have hqw : q < w.heap.size := Nat.lt_of_lt_of_le hq hB
      obtain ⟨⟨x0, x1, x2, x3, x4, x5⟩, -⟩ := hcell W0 (K0.mono hB)
      have HCL : Hid (∀ W, Below w.heap.size w W → _) := Lib.hid fun W hb => hcell W (hb.mono hB)
      simp only [KE.cells] at HA1 HA2
      rw [hA] at b0 hW0 HB0 ⊢
      have c0 := b0.cell 0
      have c1 := b0.cell 1
      have c2 := b0.cell 2
      have c3 := b0.cell 3
      have c4 := b0.cell 4
      have c5 := b0.cell 5
      simp at c0 c1 c2 c3 c4 c5
      have hlt := b0.lt
      have hq0 : q < W0.heap.size := by omega
      have hr3 := regs_three a
      have hr4 := regs_three b
      obtain ⟨RA, hRA⟩ : ∃ K : Int, (regsE a : Int) = K := ⟨_, rfl⟩
      obtain ⟨RB, hRB⟩ : ∃ K : Int, (regsE b : Int) = K := ⟨_, rfl⟩
      obtain ⟨K, hK⟩ : ∃ K : Int, (e.kind : Int) = K := ⟨_, rfl⟩
      obtain ⟨O, hO⟩ : ∃ K : Int, (e.oper : Int) = K := ⟨_, rfl⟩
      obtain ⟨R, hR⟩ : ∃ K : Int, (regsE e : Int) = K := ⟨_, rfl⟩
      have hZ : R = if O ≠ 20 ∧ O ≠ 21 ∧ RA = RB then (if RA = 3 then 3 else RA + 1) else (if RA < RB then RB else RA) := by
        rw [← hR, hans]
        have := regsE_le a
        have := regsE_le b
        split <;> split <;> first | omega | (split <;> omega)
      have HANS := Lib.hid hZ
      rw [hK, hO] at hW0 HB0 ⊢
      rw [hK] at c0
      rw [hO] at c1
      rw [hR]
      rw [hRA] at HA1 hr3
      rw [hRB] at HA2 hr4
      obtain rfl : K = 5 := by omega
      clear b0 K0 hk hf hkes HC hl hans hin hcell hA hRA hRB hK hO hR HF h1 hk9 hZ
      by_cases h20 : O = 20
      · subst h20
        rcases hr3 with rfl | rfl | rfl <;> rcases hr4 with rfl | rfl | rfl
        all_goals
          have hz := HANS.out
          simp at hz
          clear HANS
          subst hz
          go_enter Tryd.func106, Tryd.ntmps106
          go_wp2_with first
            | (go_at_call 106; (with_reducible refine (HA1.out _ HK0.out).mono ?_); rintro e1 w1 ⟨rfl, hb1⟩
               have b1 := HB0.out.call hb1
               have d0 := b1.cell 0
               have d1 := b1.cell 1
               have d2 := b1.cell 2
               have d3 := b1.cell 3
               have d4 := b1.cell 4
               have d5 := b1.cell 5
               simp at d0 d1 d2 d3 d4 d5
               have K1 := Lib.hid (HK0.out.trans (hb1.mono HK0.out.size))
               obtain ⟨-, y0, y1, y2, y3, y4, y5⟩ := HCL.out _ K1.out
               have hq1 : q < w1.heap.size := Nat.lt_of_lt_of_le hqw K1.out.size
               have B1 := Lib.hid b1
               clear b1 hb1)
            | (go_at_call 106; (with_reducible refine (HA2.out _ K1.out).mono ?_); rintro e2 w2 ⟨rfl, hb2⟩
               have b2 := B1.out.call hb2
               have f0 := b2.cell 0
               have f1 := b2.cell 1
               have f2 := b2.cell 2
               have f3 := b2.cell 3
               have f4 := b2.cell 4
               have f5 := b2.cell 5
               simp at f0 f1 f2 f3 f4 f5
               clear b2)
          go_ret
          exact ⟨rfl, K1.out.trans (hb2.mono K1.out.size)⟩
      by_cases h21 : O = 21
      · subst h21
        rcases hr3 with rfl | rfl | rfl <;> rcases hr4 with rfl | rfl | rfl
        all_goals
          have hz := HANS.out
          simp at hz
          clear HANS
          subst hz
          go_enter Tryd.func106, Tryd.ntmps106
          go_wp2_with first
            | (go_at_call 106; (with_reducible refine (HA1.out _ HK0.out).mono ?_); rintro e1 w1 ⟨rfl, hb1⟩
               have b1 := HB0.out.call hb1
               have d0 := b1.cell 0
               have d1 := b1.cell 1
               have d2 := b1.cell 2
               have d3 := b1.cell 3
               have d4 := b1.cell 4
               have d5 := b1.cell 5
               simp at d0 d1 d2 d3 d4 d5
               have K1 := Lib.hid (HK0.out.trans (hb1.mono HK0.out.size))
               obtain ⟨-, y0, y1, y2, y3, y4, y5⟩ := HCL.out _ K1.out
               have hq1 : q < w1.heap.size := Nat.lt_of_lt_of_le hqw K1.out.size
               have B1 := Lib.hid b1
               clear b1 hb1)
            | (go_at_call 106; (with_reducible refine (HA2.out _ K1.out).mono ?_); rintro e2 w2 ⟨rfl, hb2⟩
               have b2 := B1.out.call hb2
               have f0 := b2.cell 0
               have f1 := b2.cell 1
               have f2 := b2.cell 2
               have f3 := b2.cell 3
               have f4 := b2.cell 4
               have f5 := b2.cell 5
               simp at f0 f1 f2 f3 f4 f5
               clear b2)
          go_ret
          exact ⟨rfl, K1.out.trans (hb2.mono K1.out.size)⟩
      have b20 : (O == 20) = false := by simpa using h20
      have b21 : (O == 21) = false := by simpa using h21
      have n20 : (O != 20) = true := by simpa using h20
      have n21 : (O != 21) = true := by simpa using h21
      simp only [ne_eq, h20, h21, not_false_eq_true, true_and] at HANS
      rcases hr3 with rfl | rfl | rfl <;> rcases hr4 with rfl | rfl | rfl
      all_goals
        have hz := HANS.out
        simp at hz
        clear HANS
        subst hz
        go_enter Tryd.func106, Tryd.ntmps106
        go_wp2_with first
          | (go_at_call 106; (with_reducible refine (HA1.out _ HK0.out).mono ?_); rintro e1 w1 ⟨rfl, hb1⟩
             have b1 := HB0.out.call hb1
             have d0 := b1.cell 0
             have d1 := b1.cell 1
             have d2 := b1.cell 2
             have d3 := b1.cell 3
             have d4 := b1.cell 4
             have d5 := b1.cell 5
             simp at d0 d1 d2 d3 d4 d5
             have K1 := Lib.hid (HK0.out.trans (hb1.mono HK0.out.size))
             obtain ⟨-, y0, y1, y2, y3, y4, y5⟩ := HCL.out _ K1.out
             have hq1 : q < w1.heap.size := Nat.lt_of_lt_of_le hqw K1.out.size
             have B1 := Lib.hid b1
             clear b1 hb1)
          | (go_at_call 106; (with_reducible refine (HA2.out _ K1.out).mono ?_); rintro e2 w2 ⟨rfl, hb2⟩
             have b2 := B1.out.call hb2
             have f0 := b2.cell 0
             have f1 := b2.cell 1
             have f2 := b2.cell 2
             have f3 := b2.cell 3
             have f4 := b2.cell 4
             have f5 := b2.cell 5
             simp at f0 f1 f2 f3 f4 f5
             clear b2)
        go_ret
        exact ⟨rfl, K1.out.trans (hb2.mono K1.out.size)⟩
    | a :: b :: x :: r => exfalso; rw [hl] at hk; simp at hk
end Go.Proofs.YtbefmlioampgcaaDoor

/- The document's safe expressions, walked. -/
namespace Go.Proofs.YtbefmlioampgcaaDoor
open Go.RowKit
set_option linter.unusedVariables false
set_option linter.unusedSimpArgs false

def sureE (e : KE) : Bool := decide (e.kind = 1 ∨ e.kind = 2 ∨ (e.kind = 4 ∧ e.oper ≠ 23) ∨ (e.kind = 5 ∧ 6 ≤ e.oper) ∨ (e.kind = 6 ∧ e.tk = 1))
theorem safe_eq {e : KE} (hf : fieldsB e = true) : safeE e = (e.l.all safeE && sureE e) := by
  have hk := fieldsB_kind hf
  have hlen := fieldsB_len hf
  match hl : e.l with
  | [] =>
    rw [(regsE_0 hl).2.2]
    rw [hl] at hk
    simp at hk
    unfold sureE
    rcases hk with h | h <;> simp [h]
  | [a] =>
    rw [(regsE_1 hl).2.2]
    rw [hl] at hk
    simp at hk
    have h4 := hlen.2.1 (by rw [hl]; rfl)
    unfold sureE easyE
    rcases hk with h | h | h
    · simp [h]
    · have := h4 h
      have h5 : (e.oper == 25 || e.oper == 26 || e.oper != 23) = decide (e.oper ≠ 23) := by rw [Bool.eq_iff_iff]; simp; omega
      simp [h]
      cases safeE a <;> simp
      by_cases h6 : e.oper = 23 <;> simp [h6]
    · simp [h]
      cases safeE a <;> simp
      by_cases h6 : e.tk = 1 <;> simp [h6]
  | a :: b :: r =>
    have hr : r = [] := by have := hlen.1; rw [hl] at this; simp at this; exact this
    subst hr
    rw [(regsE_2 hl).2.2]
    rw [hl] at hk
    simp at hk
    unfold sureE
    simp [hk]
set_option maxRecDepth 100000 in
set_option maxHeartbeats 8000000 in
theorem rSure (e : KE) (hf : fieldsB e = true) (h255 : e.kind ≤ 255) (w : World) : Calls Tryd.prog 68 #[.agg e.cells] w (RetV (.bool (sureE e)) w) := by
  have hk := fieldsB_kind hf
  have hlen := fieldsB_len hf
  obtain ⟨W0, hW0⟩ : ∃ W, w.alloc (.cells e.cells 36) = W := ⟨_, rfl⟩
  have K0 : Below w.heap.size w W0 := by rw [← hW0]; exact (Below.refl _ _).alloc (Nat.le_refl _) _
  have b0 : Blk W0 w.heap.size 36 e.cells := by rw [← hW0]; exact Blk.new _ _ _
  have HK0 := Lib.hid K0
  simp only [KE.cells] at b0 hW0 ⊢
  obtain ⟨K, hK⟩ : ∃ K : Int, (e.kind : Int) = K := ⟨_, rfl⟩
  obtain ⟨O, hO⟩ : ∃ K : Int, (e.oper : Int) = K := ⟨_, rfl⟩
  obtain ⟨T, hT⟩ : ∃ K : Int, (e.tk : Int) = K := ⟨_, rfl⟩
  obtain ⟨R, hR⟩ : ∃ R, sureE e = R := ⟨_, rfl⟩
  have hZ : R = decide (K = 1 ∨ K = 2 ∨ (K = 4 ∧ O ≠ 23) ∨ (K = 5 ∧ 6 ≤ O) ∨ (K = 6 ∧ T = 1)) := by
    rw [← hR]
    unfold sureE
    congr 1
    rw [eq_iff_iff]
    omega
  rw [hK, hO, hT] at b0 hW0 ⊢
  rw [hR]
  have c0 := b0.cell 0
  have c1 := b0.cell 1
  have c2 := b0.cell 2
  have c3 := b0.cell 3
  have c4 := b0.cell 4
  have c5 := b0.cell 5
  simp at c0 c1 c2 c3 c4 c5
  have hlt := b0.lt
  have HZ := Lib.hid hZ
  have hk' : K = 1 ∨ K = 2 ∨ K = 3 ∨ K = 4 ∨ K = 5 ∨ K = 6 := by omega
  clear b0 K0 hk hf hlen hK hO hT hR hZ h255
  by_cases h23 : O = 23 <;> by_cases h6 : 6 ≤ O <;> by_cases hT1 : T = 1
  all_goals try (exfalso; omega)
  all_goals
    have n23 : (O != 23) = !decide (O = 23) := by rw [Bool.eq_iff_iff]; simp
    have b23 : (O == 23) = decide (O = 23) := by rw [Bool.eq_iff_iff]; simp
    have bT : (T == 1) = decide (T = 1) := by rw [Bool.eq_iff_iff]; simp
    simp only [h23, hT1, decide_true, decide_false, Bool.not_true, Bool.not_false] at n23 b23 bT
    rcases hk' with rfl | rfl | rfl | rfl | rfl | rfl
  all_goals
    have hz := HZ.out
    simp [h23, h6, hT1] at hz
    clear HZ
    subst hz
    try subst h23
    try subst hT1
    go_enter Tryd.func68, Tryd.ntmps68
    go_wp2
    go_ret
    exact ⟨rfl, HK0.out⟩
set_option maxRecDepth 100000 in
set_option maxHeartbeats 8000000 in
theorem rSafe (e : KE) : e.all (fun x => fieldsB x = true) → ∀ (B : Nat) (w : World), e.In w B → B ≤ w.heap.size →
    Calls Tryd.prog 39 #[.agg e.cells] w (RetV (.bool (safeE e)) w) := by
  induction e using KE.ind with
  | h e ih =>
    intro hall B w hin hB
    have hf := (KE.all_iff.1 hall).1
    have hpa := (KE.all_iff.1 hall).2
    obtain ⟨W0, hW0⟩ : ∃ W, w.alloc (.cells e.cells 36) = W := ⟨_, rfl⟩
    have K0 : Below w.heap.size w W0 := by rw [← hW0]; exact (Below.refl _ _).alloc (Nat.le_refl _) _
    have b0 : Blk W0 w.heap.size 36 e.cells := by rw [← hW0]; exact Blk.new _ _ _
    have HKE := Lib.hid hin.parts
    have HC : Hid (∀ x ∈ e.l, ∀ W, Below w.heap.size w W → Calls Tryd.prog 39 #[.agg x.cells] W (RetV (.bool (safeE x)) W)) := Lib.hid fun x hx W hb =>
      ih x hx (hpa x hx) B W ((hin.part hx).below (hb.mono hB)) (Nat.le_trans hB hb.size)
    have HSU := Lib.hid fun W => rSure e hf hin.one.1.1 W
    have HS := Lib.hid (safe_eq hf)
    have HK0 := Lib.hid K0
    have HB0 := Lib.hid b0
    obtain ⟨m, hm⟩ : ∃ m, e.l.length = m := ⟨_, rfl⟩
    have HM := Lib.hid hm
    have hm2 : m ≤ 140737488355328 := by rw [← hm]; exact HKE.out.1
    simp only [KE.cells] at b0 hW0 HB0 HSU ⊢
    rw [hm] at b0 hW0 HB0 HSU ⊢
    have c0 := b0.cell 0
    have c1 := b0.cell 1
    have c2 := b0.cell 2
    have c3 := b0.cell 3
    have c4 := b0.cell 4
    have c5 := b0.cell 5
    simp at c0 c1 c2 c3 c4 c5
    have hlt := b0.lt
    obtain ⟨R, hR⟩ : ∃ R, safeE e = R := ⟨_, rfl⟩
    rw [hR] at HS ⊢
    clear b0 K0 hin hm ih hall hpa hf hR
    go_enter Tryd.func39, Tryd.ntmps39
    go_wp2
    go_loopw [3] (fun i wr => ∃ k : Nat, k ≤ m ∧ i = .int .i64 k ∧ Hid ((e.l.take k).all safeE = true) ∧ Hid (Below w.heap.size w wr) ∧ Hid (Blk wr w.heap.size 36 #[.int .u8 e.kind, .int .u8 e.oper, .int .u8 e.tk, .int .i32 e.n, .int .i64 e.v, .slice e.A m e.c])) (fun i _ => m - (intOf i).toNat)
    case atStart => exact ⟨0, Nat.zero_le _, rfl, Lib.hid (by simp), HK0, HB0⟩
    case round =>
      obtain ⟨k, hk, rfl, HT, K, BX⟩ := hrel
      have bx := BX.out
      have d0 := bx.cell 0
      have d1 := bx.cell 1
      have d2 := bx.cell 2
      have d3 := bx.cell 3
      have d4 := bx.cell 4
      have d5 := bx.cell 5
      simp at d0 d1 d2 d3 d4 d5
      have hbw := bx.lt
      clear bx
      by_cases hlt2 : k < m
      · have hltI : (k : Int) < m := by omega
        have hkN : ¬ m ≤ k := by omega
        obtain ⟨b, off, x, hA, hb, hx, hxi, x0, x1, x2, x3, x4, x5⟩ := kes_six (HKE.out.below (K.out.mono hB)) (by rw [HM.out]; exact hlt2)
        have hbw2 : b < wr.heap.size := by have := K.out.size; omega
        have HCX := Lib.hid (HC.out x (List.mem_of_getElem? hx))
        simp only [KE.cells] at HCX
        cases hs : safeE x with
        | false =>
          rw [hs] at HCX
          have hRf : R = false := by
            rw [HS.out, Bool.and_eq_false_iff]
            left
            rw [List.all_eq_false]
            exact ⟨x, List.mem_of_getElem? hx, by rw [hs]; simp⟩
          subst hRf
          clear hs hx
          rw [hA] at d5 ⊢
          clear hA
          go_wp2_with first
            | (go_at_call 39; (with_reducible refine (HCX.out _ K.out).mono ?_); rintro e2 w2 ⟨rfl, hb2⟩)
          go_ret
          exact ⟨rfl, K.out.trans (hb2.mono K.out.size)⟩
        | true =>
          rw [hs] at HCX
          have HT2 : Hid ((e.l.take (k + 1)).all safeE = true) := Lib.hid (by rw [List.take_add_one, hx, List.all_append, HT.out]; simp [hs])
          clear hs hx
          have HA := Lib.hid hA
          rw [hA] at d5 ⊢
          clear hA
          go_wp2_with first
            | (go_at_call 39; (with_reducible refine (HCX.out _ K.out).mono ?_); rintro e2 w2 ⟨rfl, hb2⟩
               have K2 := Lib.hid (K.out.trans (hb2.mono K.out.size))
               have B2 := Lib.hid (BX.out.call hb2)
               clear hb2)
          go_roundw
          case rel => exact ⟨k + 1, by omega, by go_num, HT2, K2, by rw [← HA.out]; exact B2⟩
          case measure => simp [intOf]; omega
      · have hltI : ¬ (k : Int) < m := by omega
        have hkN : m ≤ k := by omega
        have hRs : R = sureE e := by
          have := HT.out
          rw [List.take_of_length_le (by rw [HM.out]; exact hkN)] at this
          rw [HS.out, this, Bool.true_and]
        subst hRs
        go_wp2_with first
          | (go_at_call 68; (with_reducible refine (HSU.out _).mono ?_); rintro e2 w2 ⟨rfl, hb2⟩)
        go_ret
        exact ⟨rfl, K.out.trans (hb2.mono K.out.size)⟩
end Go.Proofs.YtbefmlioampgcaaDoor
