/- The law PlaceBetween, walked. -/
import Derived.Test.YtekamebpjjkifaaHK49
import Derived.Test.YtekamebpjjkifaaHK43
import Derived.Test.YtekamebpjjkifaaHK40
namespace Go.Proofs.Ytekamebpjjkifaa
open Go.RowKit Go.Maps
set_option linter.unusedSimpArgs false
set_option linter.unusedVariables false

set_option maxRecDepth 100000 in
set_option maxHeartbeats 8000000 in
theorem lPlaceBetween (k : KK) (B : Nat) (w : World) (hk : k.In w B) (hB : B ≤ w.heap.size) (hcap : k.procs.length ≤ k.cp) :
    Calls Try.prog 3 #[.agg k.flat] w (RetV (.bool true) w) := by
  obtain ⟨W0, hW0⟩ : ∃ W0, w.alloc (.cells k.flat 34) = W0 := ⟨_, rfl⟩
  obtain ⟨l1, l2⟩ := lay1 w k.flat 34
  rw [hW0] at l1 l2
  have K0 := Lib.hid l1
  have L0 := Lib.hid l2
  have HL := Lib.hid (fun w1 (hb : Below w.heap.size w w1) => lLarge40 k ⟨0, none, 0, [], 0, 0⟩ B w1 (hk.below (hb.mono hB)) (Nat.le_trans hB hb.size))
  have HP := Lib.hid (fun w1 (hb : Below w.heap.size w w1) => pBetween k B w1 (hk.below (hb.mono hB)) (Nat.le_trans hB hb.size) hcap)
  have HR := Lib.hid (fun w1 (hb : Below w.heap.size w w1) => rBetween k B w1 (hk.below (hb.mono hB)) (Nat.le_trans hB hb.size))
  have HH := Lib.hid (fun w1 => lHead40 w1)
  have HLen := Lib.hid (between_short k)
  generalize betweenQ k = Q at *
  obtain ⟨er, l⟩ := Q
  obtain ⟨n, hn⟩ : ∃ q, l.length = q := ⟨_, rfl⟩
  have HS : Hid (∀ (A A' : Option Addr) (c c' B1 B2 : Nat) (w1 : World), Reads w1 B1 3 A n (tripC l) → Reads w1 B2 3 A' n (tripC l) → Calls Try.prog 10 #[.slice A n c, .slice A' n c'] w1 (RetV (.bool true) w1)) := Lib.hid fun A A' c c' B1 B2 w1 h h' => by
    have hl := HLen.out
    simp only at hl
    have := lSame40 l l A A' c c' B1 B2 w1 (by omega) (by rw [hn]; exact h) (by rw [hn]; exact h')
    rw [decide_eq_true rfl, hn] at this
    exact this
  simp only [KK.flat, TN.flat, List.length_nil] at l2 hW0 HL HP HR ⊢
  have e0 := l2.cell 0
  have e1 := l2.cell 1
  have e2 := l2.cell 2
  have e3 := l2.cell 3
  have e4 := l2.cell 4
  have e5 := l2.cell 5
  have e6 := l2.cell 6
  have e7 := l2.cell 7
  have e8 := l2.cell 8
  have e9 := l2.cell 9
  have e10 := l2.cell 10
  simp at e0 e1 e2 e3 e4 e5 e6 e7 e8 e9 e10
  clear l1 l2 hk hB HLen
  go_enter Try.func3, Try.ntmps3
  have ye : (er == er) = true := by simp
  go_wp2_with (first
    | (go_at_call 6; (with_reducible refine (HL.out _ K0.out).mono ?_); rintro e1 w1 ⟨hb1, big, rfl, -⟩
       have K1 := Lib.hid (K0.out.trans (hb1.mono K0.out.size))
       have x1 := L0.out.call hb1
       have HX := Lib.hid x1
       simp only [KK.flat] at x1
       have f0 := x1.cell 0
       have f1 := x1.cell 1
       have f2 := x1.cell 2
       have f3 := x1.cell 3
       have f4 := x1.cell 4
       have f5 := x1.cell 5
       have f6 := x1.cell 6
       have f7 := x1.cell 7
       have f8 := x1.cell 8
       have f9 := x1.cell 9
       have f10 := x1.cell 10
       simp at f0 f1 f2 f3 f4 f5 f6 f7 f8 f9 f10
       clear hb1 x1)
    | (go_at_call 8; (with_reducible refine (HP.out _ K1.out).mono ?_); rintro e2 w2 ⟨hb2, A2, c2, rfl, hr2⟩
       simp only [hn] at hr2 ⊢
       have K2 := Lib.hid (K1.out.trans (hb2.mono K1.out.size))
       have R2 := Lib.hid hr2
       have x2 := HX.out.call hb2
       simp only [KK.flat] at x2
       have g0 := x2.cell 0
       have g1 := x2.cell 1
       have g2 := x2.cell 2
       have g3 := x2.cell 3
       have g4 := x2.cell 4
       have g5 := x2.cell 5
       have g6 := x2.cell 6
       have g7 := x2.cell 7
       have g8 := x2.cell 8
       have g9 := x2.cell 9
       have g10 := x2.cell 10
       simp at g0 g1 g2 g3 g4 g5 g6 g7 g8 g9 g10
       clear hb2 hr2 x2)
    | (go_at_call 9; (with_reducible refine (HR.out _ K2.out).mono ?_); rintro e3 w3 ⟨hb3, A3, c3, rfl, hr3⟩
       simp only [hn] at hr3 ⊢
       have K3 := Lib.hid (K2.out.trans (hb3.mono K2.out.size))
       have R3 := Lib.hid hr3
       have R2' := Lib.hid (R2.out.below hb3)
       clear hb3 hr3)
    | (go_at_call 10; (with_reducible refine (HS.out _ _ _ _ _ _ _ R2'.out R3.out).mono ?_); rintro e4 w4 ⟨rfl, hb4⟩)
    | (go_at_call 7; (with_reducible refine (HH.out _).mono ?_); rintro e5 w5 ⟨rfl, hb5⟩))
  all_goals go_ret
  all_goals first
    | exact ⟨rfl, (K3.out.trans (hb4.mono K3.out.size)).trans (hb5.mono (Nat.le_trans K3.out.size hb4.size))⟩
    | exact ⟨rfl, K1.out.trans (hb5.mono K1.out.size)⟩
end Go.Proofs.Ytekamebpjjkifaa
