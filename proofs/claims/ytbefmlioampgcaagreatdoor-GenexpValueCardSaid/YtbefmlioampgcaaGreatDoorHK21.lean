/- Texts that belong together, joined: what each one holds is told ahead of it. -/
import Derived.Test.YtbefmlioampgcaaGreatDoorHK3
import Derived.Test.YtbefmlioampgcaaGreatDoorHK1
import Derived.Test.YtbefmlioampgcaaGreatDoorHK14
import Derived.Test.YtbefmlioampgcaaGreatDoorHK12
set_option linter.unusedVariables false
set_option linter.unusedSimpArgs false
/- The fields of an expression, walked in the document's shape. -/
namespace Go.Proofs.YtbefmlioampgcaaGreatDoor
open Go.RowKit
set_option linter.unusedVariables false
set_option linter.unusedSimpArgs false

set_option maxRecDepth 100000 in
set_option maxHeartbeats 16000000 in
theorem rShape (e : KE) (w : World) (hn : i32ok e.n) (hv : i64ok e.v) (hl : lenOk e.l) (hk : e.kind ≤ 255) : Calls Tryz.prog 88 #[.agg e.cells] w (RetV (.bool (fieldsB e)) w) := by
  have HQ : Hid (fieldsB e = match e.kind with
    | 1 => decide (e.l.length = 0 ∧ e.oper = 0 ∧ e.tk = 0 ∧ e.v = 0)
    | 2 => decide (e.l.length = 0 ∧ e.oper = 0 ∧ e.tk = 0 ∧ e.n = 0 ∧ 0 ≤ e.v ∧ e.v < 256)
    | 3 => decide (e.l.length = 1 ∧ e.oper = 0 ∧ e.tk = 0 ∧ e.n = 0 ∧ 0 ≤ e.v ∧ e.v < 256)
    | 4 => decide (e.l.length = 1 ∧ (23 ≤ e.oper ∧ e.oper ≤ 26) ∧ e.tk = 0 ∧ e.n = 0 ∧ e.v = 0)
    | 5 => decide (e.l.length = 2 ∧ (1 ≤ e.oper ∧ e.oper ≤ 22) ∧ e.tk = 0 ∧ e.n = 0 ∧ e.v = 0)
    | 6 => decide (e.l.length = 1 ∧ e.oper = 0 ∧ (1 ≤ e.tk ∧ e.tk ≤ 3) ∧ e.n = 0 ∧ e.v = 0)
    | _ => false) := Lib.hid rfl
  generalize fieldsB e = ans at *
  obtain ⟨kind, oper, tk, num, v, A, c, l⟩ := e
  simp only [KE.cells] at *
  obtain ⟨n, hn'⟩ : ∃ n, l.length = n := ⟨_, rfl⟩
  unfold lenOk at hl
  rw [hn'] at HQ hl ⊢
  have hn2 : n ≤ 140737488355328 := hl
  unfold i32ok at hn
  unfold i64ok at hv
  clear hn' hl
  obtain ⟨K, hK⟩ : ∃ K : Int, (kind : Int) = K := ⟨_, rfl⟩
  obtain ⟨O, hO⟩ : ∃ K : Int, (oper : Int) = K := ⟨_, rfl⟩
  obtain ⟨T, hT⟩ : ∃ K : Int, (tk : Int) = K := ⟨_, rfl⟩
  rw [hK, hO, hT]
  obtain ⟨W0, hW0⟩ : ∃ W, w.alloc (.cells #[.int .u8 K, .int .u8 O, .int .u8 T, .int .i32 num, .int .i64 v, .slice A n c] 27) = W := ⟨_, rfl⟩
  have K0 : Hid (Below w.heap.size w W0) := Lib.hid (by rw [← hW0]; exact (Below.refl _ _).alloc (Nat.le_refl _) _)
  have b0 : Blk W0 w.heap.size 27 #[.int .u8 K, .int .u8 O, .int .u8 T, .int .i32 num, .int .i64 v, .slice A n c] := by rw [← hW0]; exact Blk.new _ _ _
  have c0 := b0.cell 0
  have c1 := b0.cell 1
  have c2 := b0.cell 2
  have c3 := b0.cell 3
  have c4 := b0.cell 4
  have c5 := b0.cell 5
  simp at c0 c1 c2 c3 c4 c5
  have hlt := b0.lt
  have HK := Lib.hid hK
  have HO := Lib.hid hO
  have HT := Lib.hid hT
  have hO0 : 0 ≤ O := by omega
  have hT0 : 0 ≤ T := by omega
  have hK0 : 0 ≤ K := by omega
  have hK9 : K ≤ 255 := by omega
  clear hk
  clear b0 hK hO hT
  go_enter Tryz.func88, Tryz.ntmps88
  by_cases hk1 : K = 1
  · obtain rfl : kind = 1 := by have := HK.out; omega
    have HE : Hid (ans = decide (n = 0 ∧ oper = 0 ∧ tk = 0 ∧ v = 0)) := HQ
    clear HQ HK
    subst hk1
    by_cases q0 : ¬ O = 0
    · have qb : ((O : Int) == 0) = false := by simp; omega
      have e1 : ans = false := by
        rw [HE.out]
        have g2 := HO.out
        have g3 := HT.out
        exact decide_eq_false (by omega)
      subst e1
      go_wp2
      go_ret
      exact ⟨rfl, K0.out⟩
    obtain rfl : O = 0 := by omega
    by_cases q1 : ¬ T = 0
    · have qb : ((T : Int) == 0) = false := by simp; omega
      have e1 : ans = false := by
        rw [HE.out]
        have g2 := HO.out
        have g3 := HT.out
        exact decide_eq_false (by omega)
      subst e1
      go_wp2
      go_ret
      exact ⟨rfl, K0.out⟩
    obtain rfl : T = 0 := by omega
    by_cases q2 : ¬ v = 0
    · have qb : ((v : Int) == 0) = false := by simp; omega
      have e1 : ans = false := by
        rw [HE.out]
        have g2 := HO.out
        have g3 := HT.out
        exact decide_eq_false (by omega)
      subst e1
      go_wp2
      go_ret
      exact ⟨rfl, K0.out⟩
    obtain rfl : v = 0 := by omega
    by_cases q3 : ¬ n = 0
    · have qb : ((n : Int) == 0) = false := by simp; omega
      have e1 : ans = false := by
        rw [HE.out]
        have g2 := HO.out
        have g3 := HT.out
        exact decide_eq_false (by omega)
      subst e1
      go_wp2
      go_ret
      exact ⟨rfl, K0.out⟩
    obtain rfl : n = 0 := by omega
    have e1 : ans = true := by
      rw [HE.out]
      have g2 := HO.out
      have g3 := HT.out
      exact decide_eq_true (by omega)
    subst e1
    go_wp2
    go_ret
    exact ⟨rfl, K0.out⟩
  by_cases hk2 : K = 2
  · obtain rfl : kind = 2 := by have := HK.out; omega
    have HE : Hid (ans = decide (n = 0 ∧ oper = 0 ∧ tk = 0 ∧ num = 0 ∧ 0 ≤ v ∧ v < 256)) := HQ
    clear HQ HK
    subst hk2
    by_cases q0 : ¬ O = 0
    · have qb : ((O : Int) == 0) = false := by simp; omega
      have e1 : ans = false := by
        rw [HE.out]
        have g2 := HO.out
        have g3 := HT.out
        exact decide_eq_false (by omega)
      subst e1
      go_wp2
      go_ret
      exact ⟨rfl, K0.out⟩
    obtain rfl : O = 0 := by omega
    by_cases q1 : ¬ T = 0
    · have qb : ((T : Int) == 0) = false := by simp; omega
      have e1 : ans = false := by
        rw [HE.out]
        have g2 := HO.out
        have g3 := HT.out
        exact decide_eq_false (by omega)
      subst e1
      go_wp2
      go_ret
      exact ⟨rfl, K0.out⟩
    obtain rfl : T = 0 := by omega
    by_cases q2 : ¬ num = 0
    · have qb : ((num : Int) == 0) = false := by simp; omega
      have e1 : ans = false := by
        rw [HE.out]
        have g2 := HO.out
        have g3 := HT.out
        exact decide_eq_false (by omega)
      subst e1
      go_wp2
      go_ret
      exact ⟨rfl, K0.out⟩
    obtain rfl : num = 0 := by omega
    by_cases q3 : ¬ 0 ≤ v
    · have qb : v < 0 := by omega
      have e1 : ans = false := by
        rw [HE.out]
        have g2 := HO.out
        have g3 := HT.out
        exact decide_eq_false (by omega)
      subst e1
      go_wp2
      go_ret
      exact ⟨rfl, K0.out⟩
    have r3 : 0 ≤ v := by omega
    clear q3
    by_cases q4 : ¬ v ≤ 255
    · have qb : 255 < v := by omega
      have e1 : ans = false := by
        rw [HE.out]
        have g2 := HO.out
        have g3 := HT.out
        exact decide_eq_false (by omega)
      subst e1
      go_wp2
      go_ret
      exact ⟨rfl, K0.out⟩
    have r4 : v ≤ 255 := by omega
    clear q4
    by_cases q5 : ¬ n = 0
    · have qb : ((n : Int) == 0) = false := by simp; omega
      have e1 : ans = false := by
        rw [HE.out]
        have g2 := HO.out
        have g3 := HT.out
        exact decide_eq_false (by omega)
      subst e1
      go_wp2
      go_ret
      exact ⟨rfl, K0.out⟩
    obtain rfl : n = 0 := by omega
    have e1 : ans = true := by
      rw [HE.out]
      have g2 := HO.out
      have g3 := HT.out
      exact decide_eq_true (by omega)
    subst e1
    go_wp2
    go_ret
    exact ⟨rfl, K0.out⟩
  by_cases hk3 : K = 3
  · obtain rfl : kind = 3 := by have := HK.out; omega
    have HE : Hid (ans = decide (n = 1 ∧ oper = 0 ∧ tk = 0 ∧ num = 0 ∧ 0 ≤ v ∧ v < 256)) := HQ
    clear HQ HK
    subst hk3
    by_cases q0 : ¬ O = 0
    · have qb : ((O : Int) == 0) = false := by simp; omega
      have e1 : ans = false := by
        rw [HE.out]
        have g2 := HO.out
        have g3 := HT.out
        exact decide_eq_false (by omega)
      subst e1
      go_wp2
      go_ret
      exact ⟨rfl, K0.out⟩
    obtain rfl : O = 0 := by omega
    by_cases q1 : ¬ T = 0
    · have qb : ((T : Int) == 0) = false := by simp; omega
      have e1 : ans = false := by
        rw [HE.out]
        have g2 := HO.out
        have g3 := HT.out
        exact decide_eq_false (by omega)
      subst e1
      go_wp2
      go_ret
      exact ⟨rfl, K0.out⟩
    obtain rfl : T = 0 := by omega
    by_cases q2 : ¬ num = 0
    · have qb : ((num : Int) == 0) = false := by simp; omega
      have e1 : ans = false := by
        rw [HE.out]
        have g2 := HO.out
        have g3 := HT.out
        exact decide_eq_false (by omega)
      subst e1
      go_wp2
      go_ret
      exact ⟨rfl, K0.out⟩
    obtain rfl : num = 0 := by omega
    by_cases q3 : ¬ 0 ≤ v
    · have qb : v < 0 := by omega
      have e1 : ans = false := by
        rw [HE.out]
        have g2 := HO.out
        have g3 := HT.out
        exact decide_eq_false (by omega)
      subst e1
      go_wp2
      go_ret
      exact ⟨rfl, K0.out⟩
    have r3 : 0 ≤ v := by omega
    clear q3
    by_cases q4 : ¬ v ≤ 255
    · have qb : 255 < v := by omega
      have e1 : ans = false := by
        rw [HE.out]
        have g2 := HO.out
        have g3 := HT.out
        exact decide_eq_false (by omega)
      subst e1
      go_wp2
      go_ret
      exact ⟨rfl, K0.out⟩
    have r4 : v ≤ 255 := by omega
    clear q4
    by_cases q5 : ¬ n = 1
    · have qb : ((n : Int) == 1) = false := by simp; omega
      have e1 : ans = false := by
        rw [HE.out]
        have g2 := HO.out
        have g3 := HT.out
        exact decide_eq_false (by omega)
      subst e1
      go_wp2
      go_ret
      exact ⟨rfl, K0.out⟩
    obtain rfl : n = 1 := by omega
    have e1 : ans = true := by
      rw [HE.out]
      have g2 := HO.out
      have g3 := HT.out
      exact decide_eq_true (by omega)
    subst e1
    go_wp2
    go_ret
    exact ⟨rfl, K0.out⟩
  by_cases hk4 : K = 4
  · obtain rfl : kind = 4 := by have := HK.out; omega
    have HE : Hid (ans = decide (n = 1 ∧ (23 ≤ oper ∧ oper ≤ 26) ∧ tk = 0 ∧ num = 0 ∧ v = 0)) := HQ
    clear HQ HK
    subst hk4
    by_cases q0 : ¬ 23 ≤ O
    · have qb : O < 23 := by omega
      have e1 : ans = false := by
        rw [HE.out]
        have g2 := HO.out
        have g3 := HT.out
        exact decide_eq_false (by omega)
      subst e1
      go_wp2
      go_ret
      exact ⟨rfl, K0.out⟩
    have r0 : 23 ≤ O := by omega
    clear q0
    by_cases q1 : ¬ O ≤ 26
    · have qb : 26 < O := by omega
      have e1 : ans = false := by
        rw [HE.out]
        have g2 := HO.out
        have g3 := HT.out
        exact decide_eq_false (by omega)
      subst e1
      go_wp2
      go_ret
      exact ⟨rfl, K0.out⟩
    have r1 : O ≤ 26 := by omega
    clear q1
    by_cases q2 : ¬ T = 0
    · have qb : ((T : Int) == 0) = false := by simp; omega
      have e1 : ans = false := by
        rw [HE.out]
        have g2 := HO.out
        have g3 := HT.out
        exact decide_eq_false (by omega)
      subst e1
      go_wp2
      go_ret
      exact ⟨rfl, K0.out⟩
    obtain rfl : T = 0 := by omega
    by_cases q3 : ¬ num = 0
    · have qb : ((num : Int) == 0) = false := by simp; omega
      have e1 : ans = false := by
        rw [HE.out]
        have g2 := HO.out
        have g3 := HT.out
        exact decide_eq_false (by omega)
      subst e1
      go_wp2
      go_ret
      exact ⟨rfl, K0.out⟩
    obtain rfl : num = 0 := by omega
    by_cases q4 : ¬ v = 0
    · have qb : ((v : Int) == 0) = false := by simp; omega
      have e1 : ans = false := by
        rw [HE.out]
        have g2 := HO.out
        have g3 := HT.out
        exact decide_eq_false (by omega)
      subst e1
      go_wp2
      go_ret
      exact ⟨rfl, K0.out⟩
    obtain rfl : v = 0 := by omega
    by_cases q5 : ¬ n = 1
    · have qb : ((n : Int) == 1) = false := by simp; omega
      have e1 : ans = false := by
        rw [HE.out]
        have g2 := HO.out
        have g3 := HT.out
        exact decide_eq_false (by omega)
      subst e1
      go_wp2
      go_ret
      exact ⟨rfl, K0.out⟩
    obtain rfl : n = 1 := by omega
    have e1 : ans = true := by
      rw [HE.out]
      have g2 := HO.out
      have g3 := HT.out
      exact decide_eq_true (by omega)
    subst e1
    go_wp2
    go_ret
    exact ⟨rfl, K0.out⟩
  by_cases hk5 : K = 5
  · obtain rfl : kind = 5 := by have := HK.out; omega
    have HE : Hid (ans = decide (n = 2 ∧ (1 ≤ oper ∧ oper ≤ 22) ∧ tk = 0 ∧ num = 0 ∧ v = 0)) := HQ
    clear HQ HK
    subst hk5
    by_cases q0 : ¬ 1 ≤ O
    · have qb : O < 1 := by omega
      have e1 : ans = false := by
        rw [HE.out]
        have g2 := HO.out
        have g3 := HT.out
        exact decide_eq_false (by omega)
      subst e1
      go_wp2
      go_ret
      exact ⟨rfl, K0.out⟩
    have r0 : 1 ≤ O := by omega
    clear q0
    by_cases q1 : ¬ O ≤ 22
    · have qb : 22 < O := by omega
      have e1 : ans = false := by
        rw [HE.out]
        have g2 := HO.out
        have g3 := HT.out
        exact decide_eq_false (by omega)
      subst e1
      go_wp2
      go_ret
      exact ⟨rfl, K0.out⟩
    have r1 : O ≤ 22 := by omega
    clear q1
    by_cases q2 : ¬ T = 0
    · have qb : ((T : Int) == 0) = false := by simp; omega
      have e1 : ans = false := by
        rw [HE.out]
        have g2 := HO.out
        have g3 := HT.out
        exact decide_eq_false (by omega)
      subst e1
      go_wp2
      go_ret
      exact ⟨rfl, K0.out⟩
    obtain rfl : T = 0 := by omega
    by_cases q3 : ¬ num = 0
    · have qb : ((num : Int) == 0) = false := by simp; omega
      have e1 : ans = false := by
        rw [HE.out]
        have g2 := HO.out
        have g3 := HT.out
        exact decide_eq_false (by omega)
      subst e1
      go_wp2
      go_ret
      exact ⟨rfl, K0.out⟩
    obtain rfl : num = 0 := by omega
    by_cases q4 : ¬ v = 0
    · have qb : ((v : Int) == 0) = false := by simp; omega
      have e1 : ans = false := by
        rw [HE.out]
        have g2 := HO.out
        have g3 := HT.out
        exact decide_eq_false (by omega)
      subst e1
      go_wp2
      go_ret
      exact ⟨rfl, K0.out⟩
    obtain rfl : v = 0 := by omega
    by_cases q5 : ¬ n = 2
    · have qb : ((n : Int) == 2) = false := by simp; omega
      have e1 : ans = false := by
        rw [HE.out]
        have g2 := HO.out
        have g3 := HT.out
        exact decide_eq_false (by omega)
      subst e1
      go_wp2
      go_ret
      exact ⟨rfl, K0.out⟩
    obtain rfl : n = 2 := by omega
    have e1 : ans = true := by
      rw [HE.out]
      have g2 := HO.out
      have g3 := HT.out
      exact decide_eq_true (by omega)
    subst e1
    go_wp2
    go_ret
    exact ⟨rfl, K0.out⟩
  by_cases hk6 : K = 6
  · obtain rfl : kind = 6 := by have := HK.out; omega
    have HE : Hid (ans = decide (n = 1 ∧ oper = 0 ∧ (1 ≤ tk ∧ tk ≤ 3) ∧ num = 0 ∧ v = 0)) := HQ
    clear HQ HK
    subst hk6
    by_cases q0 : ¬ O = 0
    · have qb : ((O : Int) == 0) = false := by simp; omega
      have e1 : ans = false := by
        rw [HE.out]
        have g2 := HO.out
        have g3 := HT.out
        exact decide_eq_false (by omega)
      subst e1
      go_wp2
      go_ret
      exact ⟨rfl, K0.out⟩
    obtain rfl : O = 0 := by omega
    by_cases q1 : ¬ 1 ≤ T
    · have qb : T < 1 := by omega
      have e1 : ans = false := by
        rw [HE.out]
        have g2 := HO.out
        have g3 := HT.out
        exact decide_eq_false (by omega)
      subst e1
      go_wp2
      go_ret
      exact ⟨rfl, K0.out⟩
    have r1 : 1 ≤ T := by omega
    clear q1
    by_cases q2 : ¬ T ≤ 3
    · have qb : 3 < T := by omega
      have e1 : ans = false := by
        rw [HE.out]
        have g2 := HO.out
        have g3 := HT.out
        exact decide_eq_false (by omega)
      subst e1
      go_wp2
      go_ret
      exact ⟨rfl, K0.out⟩
    have r2 : T ≤ 3 := by omega
    clear q2
    by_cases q3 : ¬ num = 0
    · have qb : ((num : Int) == 0) = false := by simp; omega
      have e1 : ans = false := by
        rw [HE.out]
        have g2 := HO.out
        have g3 := HT.out
        exact decide_eq_false (by omega)
      subst e1
      go_wp2
      go_ret
      exact ⟨rfl, K0.out⟩
    obtain rfl : num = 0 := by omega
    by_cases q4 : ¬ v = 0
    · have qb : ((v : Int) == 0) = false := by simp; omega
      have e1 : ans = false := by
        rw [HE.out]
        have g2 := HO.out
        have g3 := HT.out
        exact decide_eq_false (by omega)
      subst e1
      go_wp2
      go_ret
      exact ⟨rfl, K0.out⟩
    obtain rfl : v = 0 := by omega
    by_cases q5 : ¬ n = 1
    · have qb : ((n : Int) == 1) = false := by simp; omega
      have e1 : ans = false := by
        rw [HE.out]
        have g2 := HO.out
        have g3 := HT.out
        exact decide_eq_false (by omega)
      subst e1
      go_wp2
      go_ret
      exact ⟨rfl, K0.out⟩
    obtain rfl : n = 1 := by omega
    have e1 : ans = true := by
      rw [HE.out]
      have g2 := HO.out
      have g3 := HT.out
      exact decide_eq_true (by omega)
    subst e1
    go_wp2
    go_ret
    exact ⟨rfl, K0.out⟩
  have e1 : ans = false := by
    rw [HQ.out]
    have g1 := HK.out
    split <;> first | rfl | omega
  subst e1
  have nb1 : (K == 1) = false := by simp; omega
  have nb2 : (K == 2) = false := by simp; omega
  have nb3 : (K == 3) = false := by simp; omega
  have nb4 : (K == 4) = false := by simp; omega
  have nb5 : (K == 5) = false := by simp; omega
  have nb6 : (K == 6) = false := by simp; omega
  go_wp2
  go_ret
  exact ⟨rfl, K0.out⟩
end Go.Proofs.YtbefmlioampgcaaGreatDoor

/- The document's valid expressions, walked: look, May. -/
namespace Go.Proofs.YtbefmlioampgcaaGreatDoor
open Go.RowKit
set_option linter.unusedVariables false
set_option linter.unusedSimpArgs false

def lookV (R : Option Nat) (left : Nat) : Int := match R with
  | none => -1
  | some r => (left : Int) - r
set_option maxRecDepth 100000 in
set_option maxHeartbeats 8000000 in
theorem rLook (e : KE) : ∀ (inside left B : Nat) (w : World), inside ≤ 32 → left ≤ 256 → e.In w B → B ≤ w.heap.size →
    Calls Tryz.prog 53 #[.agg e.cells, .int .i64 (left : Nat), .int .i64 ((32 : Int) - inside)] w (RetV (.int .i64 (lookV (roomE inside left e) left)) w) := by
  induction e using KE.ind with
  | h e ih =>
    intro inside left B w hi32 hl256 hin hB
    have hio := KE.all_iff.1 hin
    obtain ⟨W0, hW0⟩ : ∃ W, w.alloc (.cells e.cells 27) = W := ⟨_, rfl⟩
    have K0 : Below w.heap.size w W0 := by rw [← hW0]; exact (Below.refl _ _).alloc (Nat.le_refl _) _
    have b0 : Blk W0 w.heap.size 27 e.cells := by rw [← hW0]; exact Blk.new _ _ _
    have HSH := Lib.hid fun W => rShape e W hio.1.1.2.2.2.1 hio.1.1.2.2.2.2.1 hio.1.1.2.2.2.2.2 hio.1.1.1
    have heq := roomE_eq inside left e
    have hkes : kesIn w B e.A e.l := ⟨hio.1.1.2.2.2.2.2, hio.1.2, hio.2⟩
    have HKE := Lib.hid hkes
    have HIH := Lib.hid ih
    have HK0 := Lib.hid K0
    have HB0 := Lib.hid b0
    obtain ⟨D, hD⟩ : ∃ D : Int, (32 : Int) - inside = D := ⟨_, rfl⟩
    rw [hD]
    simp only [KE.cells] at b0 hW0 HSH HB0 ⊢
    have c0 := b0.cell 0
    have c1 := b0.cell 1
    have c2 := b0.cell 2
    have c3 := b0.cell 3
    have c4 := b0.cell 4
    have c5 := b0.cell 5
    simp at c0 c1 c2 c3 c4 c5
    have hlt := b0.lt
    obtain ⟨R, hR⟩ : ∃ R, roomE inside left e = R := ⟨_, rfl⟩
    rw [hR] at heq ⊢
    clear b0 K0 hin hio hkes hR ih
    by_cases h0 : left = 0
    · subst h0
      obtain rfl : R = none := by rw [heq]; simp
      clear heq
      simp only [lookV]
      go_enter Tryz.func53, Tryz.ntmps53
      go_wp2
      go_ret
      exact ⟨rfl, HK0.out⟩
    have h0i : ¬ (left : Int) < 1 := by omega
    by_cases h32 : inside = 32
    · have hD1 : D < 1 := by omega
      obtain rfl : R = none := by rw [heq, h32]; simp
      clear heq
      simp only [lookV]
      go_enter Tryz.func53, Tryz.ntmps53
      go_wp2
      go_ret
      exact ⟨rfl, HK0.out⟩
    have hD1 : ¬ D < 1 := by omega
    have hD2 : D ≤ 32 := by omega
    cases hf : fieldsB e with
    | false =>
      obtain rfl : R = none := by rw [heq, hf]; simp
      rw [hf] at HSH
      simp only [lookV]
      clear hf heq
      go_enter Tryz.func53, Tryz.ntmps53
      go_wp2_with first
        | (go_at_call 88; (with_reducible refine (HSH.out _).mono ?_); rintro e1 w1 ⟨rfl, hb1⟩)
      go_ret
      exact ⟨rfl, HK0.out.trans (hb1.mono HK0.out.size)⟩
    | true =>
      have hE : R = roomL (inside + 1) (left - 1) e.l := by rw [heq, hf]; simp [h0]; omega
      have HE := Lib.hid hE
      rw [hf] at HSH
      have HD := Lib.hid hD
      clear hf heq hE hD
      obtain ⟨m, hm⟩ : ∃ m, e.l.length = m := ⟨_, rfl⟩
      rw [hm] at HB0 hW0 c5 HSH ⊢
      have HM := Lib.hid hm
      have hm2 : m ≤ 140737488355328 := by rw [← hm]; exact HKE.out.1
      clear hm
      go_enter Tryz.func53, Tryz.ntmps53
      go_wp2_with first
        | (go_at_call 88; (with_reducible refine (HSH.out _).mono ?_); rintro e1 w1 ⟨rfl, hb1⟩
           have K1 := Lib.hid (HK0.out.trans (hb1.mono HK0.out.size))
           have B1 := Lib.hid (HB0.out.call hb1)
           clear hb1)
      go_loopw [7, 8] (fun n i wr => ∃ (k r : Nat) (q : Int), k ≤ m ∧ r < left ∧ q = left - r ∧ n = .int .i64 q ∧ i = .int .i64 k ∧ Hid (roomL (inside + 1) (left - 1) (e.l.take k) = some r) ∧ Hid (Below w.heap.size w wr) ∧ Hid (Blk wr w.heap.size 27 #[.int .u8 e.kind, .int .u8 e.oper, .int .u8 e.tk, .int .i32 e.n, .int .i64 e.v, .slice e.A m e.c])) (fun _ i _ => m - (intOf i).toNat)
      case atStart => exact ⟨0, left - 1, 1, Nat.zero_le _, by omega, by omega, rfl, rfl, Lib.hid (by rw [List.take_zero, roomL]), K1, B1⟩
      case round =>
        clear K1 B1
        obtain ⟨k, r, q, hk, hr, hq, rfl, rfl, HR, K, BX⟩ := hrel
        have bx := BX.out
        have d0 := bx.cell 0
        have d1 := bx.cell 1
        have d2 := bx.cell 2
        have d3 := bx.cell 3
        have d4 := bx.cell 4
        have d5 := bx.cell 5
        simp at d0 d1 d2 d3 d4 d5
        have hbw := bx.lt
        clear bx
        have HQ := Lib.hid hq
        have hq1 : 1 ≤ q ∧ q ≤ 256 := by omega
        by_cases hlt2 : k < m
        · have hltI : (k : Int) < m := by omega
          have hkN : ¬ m ≤ k := by omega
          obtain ⟨b, off, x, hA, hb, hx, hxi, x0, x1, x2, x3, x4, x5⟩ := kes_six (HKE.out.below (K.out.mono hB)) (by rw [HM.out]; exact hlt2)
          have hbw2 : b < wr.heap.size := by have := K.out.size; omega
          have hxw : x.In w B := HKE.out.2.2 x (List.mem_of_getElem? hx)
          obtain ⟨V, hV⟩ : ∃ V, lookV (roomE (inside + 1) r x) r = V := ⟨_, rfl⟩
          have HC : Hid (∀ W, Below w.heap.size w W → Calls Tryz.prog 53 #[.agg x.cells, .int .i64 ((left : Int) - q), .int .i64 (D - 1)] W (RetV (.int .i64 V) W)) := Lib.hid fun W hbW => by
            have h1 := HIH.out x (List.mem_of_getElem? hx) (inside + 1) r B W (by omega) (by omega) (hxw.below (hbW.mono hB)) (Nat.le_trans hB hbW.size)
            rw [hV] at h1
            rw [show (left : Int) - q = (r : Nat) by omega, show D - 1 = (32 : Int) - ((inside + 1 : Nat) : Int) by have := HD.out; omega]
            exact h1
          have HX := Lib.hid hx
          have HV := Lib.hid hV
          simp only [KE.cells] at HC
          cases hR2 : roomE (inside + 1) r x with
          | none =>
            have hV1 : V = -1 := by rw [← hV, hR2]; rfl
            have hRn : R = none := by rw [HE.out]; exact roomL_fail hx HR.out hR2
            have HRN := Lib.hid hRn
            subst hV1
            clear hV hx hR2 hRn hq
            rw [hA] at d5 ⊢
            clear hA
            go_wp2_with first
              | (go_at_call 53; (with_reducible refine (HC.out _ K.out).mono ?_); rintro e2 w2 ⟨rfl, hb2⟩)
            go_ret
            exact ⟨by rw [HRN.out]; rfl, K.out.trans (hb2.mono K.out.size)⟩
          | some r2 =>
            have hle := roomE_le x _ _ _ hR2
            have hnd := roomE_nodes x _ _ _ hR2
            have hn1 : 1 ≤ nodesE x := by rw [nodesE_eq]; omega
            have hV1 : V = (r : Int) - r2 := by rw [← hV, hR2]; rfl
            have HSN := Lib.hid ((roomL_snoc hx HR.out).trans hR2)
            have HV2 := Lib.hid hV1
            have hV3 : ¬ V < 0 := by omega
            have hV4 : V ≤ 256 := by omega
            clear hV hx hR2 hq hV1
            have HA := Lib.hid hA
            rw [hA] at d5 ⊢
            clear hA
            go_wp2_with first
              | (go_at_call 53; (with_reducible refine (HC.out _ K.out).mono ?_); rintro e2 w2 ⟨rfl, hb2⟩
                 have K2 := Lib.hid (K.out.trans (hb2.mono K.out.size))
                 have B2 := Lib.hid (BX.out.call hb2)
                 clear hb2)
            go_roundw
            case rel => exact ⟨k + 1, r2, q + V, by omega, by omega, by have := HQ.out; have := HV2.out; omega, by go_num, by go_num, HSN, K2, by rw [← HA.out]; exact B2⟩
            case measure => simp [intOf]; omega
        · have hltI : ¬ (k : Int) < m := by omega
          have hkN : m ≤ k := by omega
          have hfin : R = some r := by
            rw [HE.out, ← HR.out, List.take_of_length_le (by rw [HM.out]; exact hkN)]
          have hans : lookV R left = q := by rw [hfin, HQ.out]; rfl
          have HANS := Lib.hid hans
          clear hfin hans hq
          go_wp2
          go_ret
          exact ⟨by rw [HANS.out]; rfl, K.out⟩
theorem rMay (e : KE) (B : Nat) (w : World) (hin : e.In w B) (hB : B ≤ w.heap.size) : Calls Tryz.prog 29 #[.agg e.cells] w (RetV (.bool (validE e)) w) := by
  obtain ⟨W0, hW0⟩ : ∃ W, w.alloc (.cells e.cells 27) = W := ⟨_, rfl⟩
  have K0 : Below w.heap.size w W0 := by rw [← hW0]; exact (Below.refl _ _).alloc (Nat.le_refl _) _
  have b0 : Blk W0 w.heap.size 27 e.cells := by rw [← hW0]; exact Blk.new _ _ _
  have hl := rLook e 0 256 B W0 (by omega) (by omega) (hin.below (K0.mono hB)) (Nat.le_trans hB K0.size)
  rw [show ((256 : Nat) : Int) = 256 from rfl, show (32 : Int) - ((0 : Nat) : Int) = 32 from rfl] at hl
  have HL := Lib.hid hl
  clear hl
  obtain ⟨V, hV⟩ : ∃ V, lookV (roomE 0 256 e) 256 = V := ⟨_, rfl⟩
  rw [hV] at HL
  have hVb : -1 ≤ V ∧ V ≤ 256 := by
    rw [← hV]
    cases hr : roomE 0 256 e with
    | none => exact ⟨by simp [lookV], by simp [lookV]⟩
    | some r =>
      have h1 := roomE_le e _ _ _ hr
      simp only [lookV]; omega
  have hval : validE e = decide (0 < V) := by
    unfold validE
    rw [← hV]
    cases hr : roomE 0 256 e with
    | none => simp [lookV]
    | some r =>
      have h1 := roomE_nodes e _ _ _ hr
      have h2 : 1 ≤ nodesE e := by rw [nodesE_eq]; omega
      simp only [lookV, Option.isSome_some]
      symm
      exact decide_eq_true (by omega)
  have HV := Lib.hid hval
  have HK0 := Lib.hid K0
  simp only [KE.cells] at b0 hW0 HL ⊢
  have c0 := b0.cell 0
  have c1 := b0.cell 1
  have c2 := b0.cell 2
  have c3 := b0.cell 3
  have c4 := b0.cell 4
  have c5 := b0.cell 5
  simp at c0 c1 c2 c3 c4 c5
  have hlt := b0.lt
  clear hV hval b0 K0
  go_enter Tryz.func29, Tryz.ntmps29
  go_wp2_with first
    | (go_at_call 53; (with_reducible refine HL.out.mono ?_); rintro e1 w1 ⟨rfl, hb1⟩)
  go_ret
  exact ⟨by rw [HV.out]; rfl, HK0.out.trans (hb1.mono HK0.out.size)⟩
end Go.Proofs.YtbefmlioampgcaaGreatDoor
