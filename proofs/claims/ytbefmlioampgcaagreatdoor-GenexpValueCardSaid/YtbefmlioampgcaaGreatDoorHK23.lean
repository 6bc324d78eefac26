/- Texts that belong together, joined: what each one holds is told ahead of it. -/
import Derived.Test.YtbefmlioampgcaaGreatDoorHK22
import Derived.Test.YtbefmlioampgcaaGreatDoorHK15
set_option linter.unusedVariables false
set_option linter.unusedSimpArgs false
/- The document's Safe, Spills, temps and Temps, walked. -/
namespace Go.Proofs.YtbefmlioampgcaaGreatDoor
open Go.RowKit
set_option linter.unusedVariables false
set_option linter.unusedSimpArgs false

set_option maxRecDepth 100000 in
set_option maxHeartbeats 8000000 in
theorem rSpills (e a b : KE) (hl : e.l = [a, b]) (hall : e.all (fun x => fieldsB x = true)) (B : Nat) (w : World) (hin : e.In w B) (hB : B ≤ w.heap.size) :
    Calls Tryz.prog 55 #[.agg e.cells] w (RetV (.bool (decide (e.oper ≠ 20 ∧ e.oper ≠ 21 ∧ regsE a = 3 ∧ regsE b = 3))) w) := by
  have hf := (KE.all_iff.1 hall).1
  have hk := fieldsB_kind hf
  have hpa := (KE.all_iff.1 hall).2
  obtain ⟨W0, hW0⟩ : ∃ W, w.alloc (.cells e.cells 27) = W := ⟨_, rfl⟩
  have K0 : Below w.heap.size w W0 := by rw [← hW0]; exact (Below.refl _ _).alloc (Nat.le_refl _) _
  have b0 : Blk W0 w.heap.size 27 e.cells := by rw [← hW0]; exact Blk.new _ _ _
  have HK0 := Lib.hid K0
  have HB0 := Lib.hid b0
  have hkes := hin.parts
  have HC : ∀ x ∈ e.l, Hid (∀ W, Below w.heap.size w W → Calls Tryz.prog 89 #[.agg x.cells] W (RetV (.int .i64 (regsE x)) W)) := fun x hx => Lib.hid fun W hb =>
    rRegs x (hpa x hx) B W ((hin.part hx).below (hb.mono hB)) (Nat.le_trans hB hb.size)
  have h1 : e.kind = 5 := by rw [hl] at hk; simp at hk; exact hk
  simp only [KE.cells] at b0 hW0 HB0 ⊢
  rw [hl] at b0 hW0 HB0 hkes
  rw [hl]
  have HA1 := HC a (by rw [hl]; simp)
  have HA2 := HC b (by rw [hl]; simp)
  simp only [List.length_cons, List.length_nil, Nat.zero_add] at b0 hW0 HB0 ⊢
  obtain ⟨q, off, hA, hq, hcell⟩ := two_at hkes
  have hqw : q < w.heap.size := Nat.lt_of_lt_of_le hq hB
  obtain ⟨⟨x0, x1, x2, x3, x4, x5⟩, -⟩ := hcell W0 (K0.mono hB)
  have HCL : Hid (∀ W, Below w.heap.size w W → _) := Lib.hid fun W hb => hcell W (hb.mono hB)
  simp only [KE.cells] at HA1 HA2
  rw [hA] at b0 hW0 HB0 ⊢
  have c0 := b0.cell 0
  have c1 := b0.cell 1
  have c2 := b0.cell 2
  have c3 := b0.cell 3
  have c4 := b0.cell 4
  have c5 := b0.cell 5
  simp at c0 c1 c2 c3 c4 c5
  have hlt := b0.lt
  have hq0 : q < W0.heap.size := by omega
  obtain ⟨RA, hRA⟩ : ∃ K : Int, (regsE a : Int) = K := ⟨_, rfl⟩
  obtain ⟨RB, hRB⟩ : ∃ K : Int, (regsE b : Int) = K := ⟨_, rfl⟩
  obtain ⟨K, hK⟩ : ∃ K : Int, (e.kind : Int) = K := ⟨_, rfl⟩
  obtain ⟨O, hO⟩ : ∃ K : Int, (e.oper : Int) = K := ⟨_, rfl⟩
  have hZ : decide (e.oper ≠ 20 ∧ e.oper ≠ 21 ∧ regsE a = 3 ∧ regsE b = 3) = decide (O ≠ 20 ∧ O ≠ 21 ∧ RA = 3 ∧ RB = 3) := by
    congr 1
    rw [eq_iff_iff]
    omega
  rw [hZ]
  rw [hK, hO] at hW0 HB0 ⊢
  rw [hK] at c0
  rw [hO] at c1
  rw [hRA] at HA1
  rw [hRB] at HA2
  obtain rfl : K = 5 := by omega
  clear b0 K0 hk hf hkes HC hl hin hcell hA hRA hRB hK hO h1 hZ hpa hall
  by_cases h20 : O = 20 <;> by_cases h21 : O = 21 <;> by_cases hRA3 : RA = 3 <;> by_cases hRB3 : RB = 3
  all_goals try (exfalso; omega)
  all_goals
    have n20 : (O != 20) = !decide (O = 20) := by rw [Bool.eq_iff_iff]; simp
    have n21 : (O != 21) = !decide (O = 21) := by rw [Bool.eq_iff_iff]; simp
    have bRA : (RA == 3) = decide (RA = 3) := by rw [Bool.eq_iff_iff]; simp
    have bRB : (RB == 3) = decide (RB = 3) := by rw [Bool.eq_iff_iff]; simp
    simp only [h20, h21, hRA3, hRB3, decide_true, decide_false, Bool.not_true, Bool.not_false] at n20 n21 bRA bRB
    simp only [h20, h21, hRA3, hRB3, ne_eq, not_true_eq_false, not_false_eq_true, and_true, and_false, false_and, true_and, decide_true, decide_false, and_self]
    try subst h20
    try subst h21
    try subst hRA3
    try subst hRB3
    go_enter Tryz.func55, Tryz.ntmps55
    go_wp2_with first
      | (go_at_call 89; (with_reducible refine (HA1.out _ HK0.out).mono ?_); rintro e1 w1 ⟨rfl, hb1⟩
         have b1 := HB0.out.call hb1
         have d0 := b1.cell 0
         have d1 := b1.cell 1
         have d2 := b1.cell 2
         have d3 := b1.cell 3
         have d4 := b1.cell 4
         have d5 := b1.cell 5
         simp at d0 d1 d2 d3 d4 d5
         have K1 := Lib.hid (HK0.out.trans (hb1.mono HK0.out.size))
         obtain ⟨-, y0, y1, y2, y3, y4, y5⟩ := HCL.out _ K1.out
         have hq1 : q < w1.heap.size := Nat.lt_of_lt_of_le hqw K1.out.size
         clear b1 hb1)
      | (go_at_call 89; (with_reducible refine (HA2.out _ K1.out).mono ?_); rintro e2 w2 ⟨rfl, hb2⟩)
    go_ret
    first
      | exact ⟨rfl, K1.out.trans (hb2.mono K1.out.size)⟩
      | exact ⟨rfl, K1.out⟩
      | exact ⟨rfl, HK0.out⟩
theorem tempsE_pair {e a b : KE} (hl : e.l = [a, b]) : (tempsE e : Int) = if e.oper ≠ 20 ∧ e.oper ≠ 21 ∧ regsE a = 3 ∧ regsE b = 3 then max (tempsE b : Int) ((tempsE a : Int) + 1) else max (tempsE a : Int) (tempsE b : Int) := by
  rw [(regsE_2 hl).2.1]
  split <;> omega
theorem tempsE_room (e : KE) (h : e.all (fun x => fieldsB x = true)) : tempsE e ≤ nodesE e := by
  induction e using KE.ind with
  | h e ih =>
    have hpa := (KE.all_iff.1 h).2
    match hl : e.l with
    | [] => rw [(regsE_0 hl).2.1]; omega
    | [a] =>
      have := ih a (by rw [hl]; simp) (hpa a (by rw [hl]; simp))
      have := nodesE_1 hl
      rw [(regsE_1 hl).2.1]
      omega
    | a :: b :: r =>
      have := ih a (by rw [hl]; simp) (hpa a (by rw [hl]; simp))
      have := ih b (by rw [hl]; simp) (hpa b (by rw [hl]; simp))
      have := nodesE_2 hl
      rw [(regsE_2 hl).2.1]
      split <;> omega
set_option maxRecDepth 100000 in
set_option maxHeartbeats 8000000 in
theorem rTemps (e : KE) : e.all (fun x => fieldsB x = true) → nodesE e ≤ 256 → ∀ (B : Nat) (w : World), e.In w B → B ≤ w.heap.size →
    Calls Tryz.prog 34 #[.agg e.cells] w (RetV (.int .i64 (tempsE e)) w) := by
  induction e using KE.ind with
  | h e ih =>
    intro hall hnod B w hin hB
    have hf := (KE.all_iff.1 hall).1
    have hlen := fieldsB_len hf
    have hpa := (KE.all_iff.1 hall).2
    obtain ⟨W0, hW0⟩ : ∃ W, w.alloc (.cells e.cells 27) = W := ⟨_, rfl⟩
    have K0 : Below w.heap.size w W0 := by rw [← hW0]; exact (Below.refl _ _).alloc (Nat.le_refl _) _
    have b0 : Blk W0 w.heap.size 27 e.cells := by rw [← hW0]; exact Blk.new _ _ _
    have HK0 := Lib.hid K0
    have HB0 := Lib.hid b0
    have hkes := hin.parts
    have HC : ∀ x ∈ e.l, nodesE x ≤ 256 → Hid (∀ W, Below w.heap.size w W → Calls Tryz.prog 34 #[.agg x.cells] W (RetV (.int .i64 (tempsE x)) W)) := fun x hx hn => Lib.hid fun W hb =>
      ih x hx (hpa x hx) hn B W ((hin.part hx).below (hb.mono hB)) (Nat.le_trans hB hb.size)
    simp only [KE.cells] at b0 hW0 HB0 ⊢
    match hl : e.l with
    | [] =>
      have hans := (regsE_0 hl).2.1
      rw [hans]
      rw [hl] at b0 hW0 HB0
      simp only [List.length_nil] at b0 hW0 HB0 ⊢
      have c0 := b0.cell 0
      have c1 := b0.cell 1
      have c2 := b0.cell 2
      have c3 := b0.cell 3
      have c4 := b0.cell 4
      have c5 := b0.cell 5
      simp at c0 c1 c2 c3 c4 c5
      have hlt := b0.lt
      clear b0 K0 hf hkes HC hl hans hin hlen ih hall hpa hnod
      go_enter Tryz.func34, Tryz.ntmps34
      go_wp2
      go_ret
      exact ⟨rfl, HK0.out⟩
    | [a] =>
      have hans := (regsE_1 hl).2.1
      have hnd := nodesE_1 hl
      rw [hans]
      rw [hl] at b0 hW0 HB0 hkes
      have HA1 := HC a (by rw [hl]; simp) (by omega)
      simp only [List.length_cons, List.length_nil, Nat.zero_add] at b0 hW0 HB0 ⊢
      obtain ⟨q, off, hA, hq, hcell⟩ := one_at hkes
      obtain ⟨x0, x1, x2, x3, x4, x5⟩ := hcell W0 (K0.mono hB)
      simp only [KE.cells] at HA1
      rw [hA] at b0 hW0 HB0 ⊢
      have c0 := b0.cell 0
      have c1 := b0.cell 1
      have c2 := b0.cell 2
      have c3 := b0.cell 3
      have c4 := b0.cell 4
      have c5 := b0.cell 5
      simp at c0 c1 c2 c3 c4 c5
      have hlt := b0.lt
      have hq0 : q < W0.heap.size := by omega
      clear b0 K0 hf hkes HC hl hans hin hlen ih hall hpa hnod hcell hA hnd
      go_enter Tryz.func34, Tryz.ntmps34
      go_wp2_with first
        | (go_at_call 34; (with_reducible refine (HA1.out _ HK0.out).mono ?_); rintro e1 w1 ⟨rfl, hb1⟩)
      go_ret
      exact ⟨rfl, HK0.out.trans (hb1.mono HK0.out.size)⟩
    | [a, b] =>
      have hans := tempsE_pair hl
      have hnd := nodesE_2 hl
      have hta := tempsE_room a (hpa a (by rw [hl]; simp))
      have htb := tempsE_room b (hpa b (by rw [hl]; simp))
      have HSP := Lib.hid (rSpills e a b hl hall B W0 (hin.below (K0.mono hB)) (Nat.le_trans hB K0.size))
      rw [hl] at b0 hW0 HB0 hkes
      have HA1 := HC a (by rw [hl]; simp) (by omega)
      have HA2 := HC b (by rw [hl]; simp) (by omega)
      simp only [KE.cells] at HA1 HA2 HSP
      rw [hl] at HSP
      simp only [List.length_cons, List.length_nil, Nat.zero_add] at b0 hW0 HB0 HSP ⊢
      obtain ⟨q, off, hA, hq, hcell⟩ := two_at hkes
      have hqw : q < w.heap.size := Nat.lt_of_lt_of_le hq hB
      have HCL : Hid (∀ W, Below w.heap.size w W → _) := Lib.hid fun W hb => hcell W (hb.mono hB)
      rw [hA] at b0 hW0 HB0 HSP ⊢
      have c0 := b0.cell 0
      have c1 := b0.cell 1
      have c2 := b0.cell 2
      have c3 := b0.cell 3
      have c4 := b0.cell 4
      have c5 := b0.cell 5
      simp at c0 c1 c2 c3 c4 c5
      have hlt := b0.lt
      obtain ⟨RA, hRA⟩ : ∃ K : Int, (tempsE a : Int) = K := ⟨_, rfl⟩
      obtain ⟨RB, hRB⟩ : ∃ K : Int, (tempsE b : Int) = K := ⟨_, rfl⟩
      have hRA0 : 0 ≤ RA ∧ RA ≤ 256 := by omega
      have hRB0 : 0 ≤ RB ∧ RB ≤ 256 := by omega
      rw [hans]
      rw [hRA, hRB]
      rw [hRA] at HA1
      rw [hRB] at HA2
      have hdec : (if e.oper ≠ 20 ∧ e.oper ≠ 21 ∧ regsE a = 3 ∧ regsE b = 3 then max RB (RA + 1) else max RA RB) = if decide (e.oper ≠ 20 ∧ e.oper ≠ 21 ∧ regsE a = 3 ∧ regsE b = 3) = true then max RB (RA + 1) else max RA RB := by simp
      rw [hdec]
      generalize decide (e.oper ≠ 20 ∧ e.oper ≠ 21 ∧ regsE a = 3 ∧ regsE b = 3) = SP at *
      clear b0 K0 hf hkes HC hl hans hin hlen ih hall hpa hnod hcell hA hnd hRA hRB hta htb hdec
      cases SP
      all_goals
        simp only [if_true, if_false, Bool.false_eq_true]
        go_enter Tryz.func34, Tryz.ntmps34
        go_wp2_with first
          | (go_at_call 55; (with_reducible refine HSP.out.mono ?_); rintro e1 w1 ⟨rfl, hb1⟩
             have b1 := HB0.out.call hb1
             have d0 := b1.cell 0
             have d1 := b1.cell 1
             have d2 := b1.cell 2
             have d3 := b1.cell 3
             have d4 := b1.cell 4
             have d5 := b1.cell 5
             simp at d0 d1 d2 d3 d4 d5
             have hbw := b1.lt
             have K1 := Lib.hid (HK0.out.trans (hb1.mono HK0.out.size))
             obtain ⟨⟨x0, x1, x2, x3, x4, x5⟩, y0, y1, y2, y3, y4, y5⟩ := HCL.out _ K1.out
             have hq1 : q < w1.heap.size := Nat.lt_of_lt_of_le hqw K1.out.size
             have B1 := Lib.hid b1
             clear b1 hb1)
        obtain ⟨ι, F, i0', h0', hFb, hcl⟩ := fam_below w1
        haveI : Nonempty ι := ⟨i0'⟩
        have D5 : ∀ i, (F i).cell? ⟨w.heap.size, 5, none⟩ = _ := fun i => ((bcell (hFb i)).1 _ _ hbw).trans d5
        have X0 : ∀ i, (F i).cell? ⟨q, off, none⟩ = _ := fun i => ((bcell (hFb i)).1 _ _ hq1).trans x0
        have X1 : ∀ i, (F i).cell? ⟨q, off + 1, none⟩ = _ := fun i => ((bcell (hFb i)).1 _ _ hq1).trans x1
        have X2 : ∀ i, (F i).cell? ⟨q, off + 2, none⟩ = _ := fun i => ((bcell (hFb i)).1 _ _ hq1).trans x2
        have X3 : ∀ i, (F i).cell? ⟨q, off + 3, none⟩ = _ := fun i => ((bcell (hFb i)).1 _ _ hq1).trans x3
        have X4 : ∀ i, (F i).cell? ⟨q, off + 4, none⟩ = _ := fun i => ((bcell (hFb i)).1 _ _ hq1).trans x4
        have X5 : ∀ i, (F i).cell? ⟨q, off + 5, none⟩ = _ := fun i => ((bcell (hFb i)).1 _ _ hq1).trans x5
        have Y0 : ∀ i, (F i).cell? ⟨q, off + 6, none⟩ = _ := fun i => ((bcell (hFb i)).1 _ _ hq1).trans y0
        have Y1 : ∀ i, (F i).cell? ⟨q, off + 6 + 1, none⟩ = _ := fun i => ((bcell (hFb i)).1 _ _ hq1).trans y1
        have Y2 : ∀ i, (F i).cell? ⟨q, off + 6 + 2, none⟩ = _ := fun i => ((bcell (hFb i)).1 _ _ hq1).trans y2
        have Y3 : ∀ i, (F i).cell? ⟨q, off + 6 + 3, none⟩ = _ := fun i => ((bcell (hFb i)).1 _ _ hq1).trans y3
        have Y4 : ∀ i, (F i).cell? ⟨q, off + 6 + 4, none⟩ = _ := fun i => ((bcell (hFb i)).1 _ _ hq1).trans y4
        have Y5 : ∀ i, (F i).cell? ⟨q, off + 6 + 5, none⟩ = _ := fun i => ((bcell (hFb i)).1 _ _ hq1).trans y5
        have HKF := Lib.hid (fun i => K1.out.trans ((hFb i).mono K1.out.size))
        clear hFb
        refine wp_region_quiet_fam F i0' h0' (by kernel_rfl) (by kernel_rfl) ?_
        repeat (go_big_quiet_step (first
          | (go_at_call 34; (with_reducible refine (HA1.out _ (HKF.out _)).mono ?_); rintro e3 w3 ⟨rfl, hb3⟩; exact ⟨rfl, hcl _ _ hb3⟩)
          | (go_at_call 34; (with_reducible refine (HA2.out _ (HKF.out _)).mono ?_); rintro e3 w3 ⟨rfl, hb3⟩; exact ⟨rfl, hcl _ _ hb3⟩)))
        refine wpQuiet_nil ?_
        intro i
        go_wp2
        go_ret
        exact ⟨rfl, HKF.out i⟩
    | a :: b :: x :: r => exfalso; rw [hl] at hlen; simp at hlen
end Go.Proofs.YtbefmlioampgcaaGreatDoor

/- The document's Temps, walked. -/
namespace Go.Proofs.YtbefmlioampgcaaGreatDoor
open Go.RowKit
set_option linter.unusedVariables false
set_option linter.unusedSimpArgs false

set_option maxRecDepth 100000 in
set_option maxHeartbeats 4000000 in
theorem rTemps22 (e : KE) (B : Nat) (w : World) (hin : e.In w B) (hB : B ≤ w.heap.size) : Calls Tryz.prog 15 #[.agg e.cells] w (RetV (.int .i64 (tempsV e)) w) := by
  obtain ⟨W0, hW0⟩ : ∃ W, w.alloc (.cells e.cells 27) = W := ⟨_, rfl⟩
  have K0 : Below w.heap.size w W0 := by rw [← hW0]; exact (Below.refl _ _).alloc (Nat.le_refl _) _
  have b0 : Blk W0 w.heap.size 27 e.cells := by rw [← hW0]; exact Blk.new _ _ _
  have HK0 := Lib.hid K0
  have HB0 := Lib.hid b0
  have HM := Lib.hid (rMay e B W0 (hin.below (K0.mono hB)) (Nat.le_trans hB K0.size))
  have HSF : Hid (validE e = true → ∀ W, Below w.heap.size w W → Calls Tryz.prog 34 #[.agg e.cells] W (RetV (.int .i64 (tempsV e)) W)) := Lib.hid fun hv W hb => by
    have : tempsV e = tempsE e := by unfold tempsV; rw [hv]; rfl
    rw [this]
    exact rTemps e (validE_all hv) (valid_nodes hv) B W (hin.below (hb.mono hB)) (Nat.le_trans hB hb.size)
  have H0 : Hid (validE e = false → tempsV e = 0) := Lib.hid fun hv => by unfold tempsV; rw [hv]; rfl
  simp only [KE.cells] at b0 hW0 HB0 HM HSF ⊢
  have c0 := b0.cell 0
  have c1 := b0.cell 1
  have c2 := b0.cell 2
  have c3 := b0.cell 3
  have c4 := b0.cell 4
  have c5 := b0.cell 5
  simp at c0 c1 c2 c3 c4 c5
  have hlt := b0.lt
  clear b0 K0 hin
  generalize validE e = V at *
  generalize tempsV e = S at *
  cases V with
  | false =>
    obtain rfl : S = 0 := H0.out rfl
    clear HSF H0
    go_enter Tryz.func15, Tryz.ntmps15
    go_wp2_with first
      | (go_at_call 29; (with_reducible refine HM.out.mono ?_); rintro e1 w1 ⟨rfl, hb1⟩
         have K1 := Lib.hid (HK0.out.trans (hb1.mono HK0.out.size)))
    go_ret
    exact ⟨rfl, K1.out⟩
  | true =>
    have HS2 := Lib.hid (HSF.out (by first | trivial | rfl))
    clear HSF H0
    go_enter Tryz.func15, Tryz.ntmps15
    go_wp2_with first
      | (go_at_call 29; (with_reducible refine HM.out.mono ?_); rintro e1 w1 ⟨rfl, hb1⟩
         have K1 := Lib.hid (HK0.out.trans (hb1.mono HK0.out.size))
         have b1 := HB0.out.call hb1
         have d0 := b1.cell 0
         have d1 := b1.cell 1
         have d2 := b1.cell 2
         have d3 := b1.cell 3
         have d4 := b1.cell 4
         have d5 := b1.cell 5
         simp at d0 d1 d2 d3 d4 d5
         clear b1)
      | (go_at_call 34; (with_reducible refine (HS2.out _ K1.out).mono ?_); rintro e2 w2 ⟨rfl, hb2⟩)
    go_ret
    exact ⟨rfl, K1.out.trans (hb2.mono K1.out.size)⟩
end Go.Proofs.YtbefmlioampgcaaGreatDoor

/- The document's fits, walked. -/
namespace Go.Proofs.YtbefmlioampgcaaGreatDoor
open Go.RowKit
set_option linter.unusedVariables false
set_option linter.unusedSimpArgs false

def fitW (k : Int) (v : Int) : Bool := decide (k = 1 ∨ (k = 2 ∧ 0 ≤ v ∧ v ≤ 255) ∨ (k = 3 ∧ (v = 0 ∨ v = 1)))
set_option maxRecDepth 100000 in
set_option maxHeartbeats 4000000 in
theorem rFits25 (K v : Int) (w : World) : Calls Tryz.prog 33 #[.int .u8 K, .int .i32 v] w (RetQ (.bool (fitW K v)) w) := by
  obtain ⟨R, hR⟩ : ∃ R, fitW K v = R := ⟨_, rfl⟩
  have HR := Lib.hid hR
  rw [hR]
  clear hR
  by_cases h1 : K = 1 <;> by_cases h2 : K = 2 <;> by_cases h3 : K = 3 <;> by_cases h4 : 0 ≤ v <;> by_cases h5 : v ≤ 255 <;> by_cases h6 : v = 0 <;> by_cases h7 : v = 1
  all_goals try (exfalso; omega)
  all_goals
    have hz := HR.out
    simp [fitW, h1, h2, h3, h4, h5, h6, h7] at hz
    have g1 : (K == 1) = decide (K = 1) := by rw [Bool.eq_iff_iff]; simp
    have g2 : (K == 2) = decide (K = 2) := by rw [Bool.eq_iff_iff]; simp
    have g3 : (K == 3) = decide (K = 3) := by rw [Bool.eq_iff_iff]; simp
    have g6 : (v == 0) = decide (v = 0) := by rw [Bool.eq_iff_iff]; simp
    have g7 : (v == 1) = decide (v = 1) := by rw [Bool.eq_iff_iff]; simp
    simp only [h1, h2, h3, h6, h7, decide_true, decide_false] at g1 g2 g3 g6 g7
    clear HR
    subst hz
    try subst h1
    try subst h2
    try subst h3
    try subst h6
    try subst h7
    go_enter Tryz.func33, Tryz.ntmps33
    go_wp2
    go_ret
    exact ⟨rfl, rfl⟩
end Go.Proofs.YtbefmlioampgcaaGreatDoor
