/- The program's Route: the walk of a call that is refused. -/
import Derived.Test.YtadpenphiagdmaaR8
namespace Go.Proofs.Ytadpenphiagdmaa
open Go.RowKit
set_option linter.unusedVariables false
set_option linter.unusedSimpArgs false

set_option maxRecDepth 100000 in
set_option maxHeartbeats 1000000 in
theorem tRoute_bad (N hn hl : Int) (A : Option Addr) (m c : Nat) (ws : List Wire) (fr dn : Int) (w : World) (hr : Reads w w.heap.size 4 A m (wcells ws)) (hm : m ≤ 1000000)
    (k : Int) (hk : (mayB N ws hn hl = false ∧ k = 2) ∨ (mayB N ws hn hl = true ∧ k = 4 ∧ ¬ ((0 ≤ fr ∧ fr < N) ∧ (0 ≤ dn ∧ dn < N)))) :
    Calls Try.prog 15 #[.agg #[.int .i64 N, .slice A m c, .int .i64 hn, .int .i64 hl], .int .i64 fr, .int .i64 dn] w (RetSE [] k w) := by
  obtain ⟨k1, k2⟩ := lay1 w #[.int .i64 N, .slice A m c, .int .i64 hn, .int .i64 hl] 26
  have hr0 := hr.up k1 (by simp <;> omega)
  have HI1 := Lib.hid (fun w (hr : Reads w w.heap.size 4 A m (wcells ws)) => tinside N hn hl A m c ws w hr hm fr)
  have HI2 := Lib.hid (fun w (hr : Reads w w.heap.size 4 A m (wcells ws)) => tinside N hn hl A m c ws w hr hm dn)
  rcases hk with ⟨hmay, rfl⟩ | ⟨hmay, rfl, hno⟩
  · have HJ := Lib.hid (tvalid_no N hn hl A m c ws (w.alloc (.cells #[.int .i64 N, .slice A m c, .int .i64 hn, .int .i64 hl] 26)) hr0 hm hmay)
    clear hmay
    go_enter Try.func15, Try.ntmps15
    go_wp2_with (go_at_call 26; refine HJ.out.mono ?_; rintro e w1 ⟨hb1, p, s, rfl⟩)
    go_ret2
    exact RetSE.nil (k1.call (by simp <;> omega) hb1)
  have HJ := Lib.hid (tvalid_yes N hn hl A m c ws (w.alloc (.cells #[.int .i64 N, .slice A m c, .int .i64 hn, .int .i64 hl] 26)) hr0 hm hmay)
  clear hmay
  cases hin1 : (decide (0 ≤ fr) && decide (fr < N))
  · have Hin1 := Lib.hid hin1
    clear hin1 hno
    go_enter Try.func15, Try.ntmps15
    go_wp2_with (first
      | (go_at_call 26; refine HJ.out.mono ?_; rintro e w1 ⟨hb1, g, r, b, rfl, bg, hM, bt, hgl, hbl⟩
         have b0 := k2.call hb1
         have hB := k1.call (by simp <;> omega) hb1
         have hr1 := hr0.call hb1
         have c00 := b0.cell 0
         have c01 := b0.cell 1
         have c02 := b0.cell 2
         have c03 := b0.cell 3
         simp at c00 c01 c02 c03)
      | (go_at_call 28; refine (HI1.out _ hr1).mono ?_; clear HI1; rintro e w2 ⟨rfl, hb2⟩; rw [Hin1.out]))
    go_ret2
    exact RetSE.nil (hB.call hB.size hb2)
  · have hin2 : (decide (0 ≤ dn) && decide (dn < N)) = false := by
      simp only [Bool.and_eq_true, decide_eq_true_eq] at hin1
      cases h : (decide (0 ≤ dn) && decide (dn < N))
      · rfl
      · simp only [Bool.and_eq_true, decide_eq_true_eq] at h
        exact (hno ⟨hin1, h⟩).elim
    have Hin1 := Lib.hid hin1
    have Hin2 := Lib.hid hin2
    clear hin1 hin2 hno
    go_enter Try.func15, Try.ntmps15
    go_wp2_with (first
      | (go_at_call 26; refine HJ.out.mono ?_; rintro e w1 ⟨hb1, g, r, bt0, rfl, bg, hM, bt, hgl, hbl⟩
         have b0 := k2.call hb1
         have hB := k1.call (by simp <;> omega) hb1
         have hr1 := hr0.call hb1
         have c00 := b0.cell 0
         have c01 := b0.cell 1
         have c02 := b0.cell 2
         have c03 := b0.cell 3
         simp at c00 c01 c02 c03)
      | (go_at_call 28; first
         | (refine (HI1.out _ hr1).mono ?_; clear HI1; rintro e w2 ⟨rfl, hb2⟩; rw [Hin1.out]
            have b0' := b0.call hb2
            have hr2 := hr1.call hb2
            have c10 := b0'.cell 0
            have c11 := b0'.cell 1
            have c12 := b0'.cell 2
            have c13 := b0'.cell 3
            simp at c10 c11 c12 c13)
         | (refine (HI2.out _ hr2).mono ?_; rintro e w3 ⟨rfl, hb3⟩; rw [Hin2.out])))
    go_ret2
    exact RetSE.nil ((hB.call hB.size hb2).call (hB.call hB.size hb2).size hb3)
end Go.Proofs.Ytadpenphiagdmaa
