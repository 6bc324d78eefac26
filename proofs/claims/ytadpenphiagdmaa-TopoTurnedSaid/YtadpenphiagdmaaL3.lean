/- The law's own functions: works. -/
import Derived.Test.YtadpenphiagdmaaL2
namespace Go.Proofs.Ytadpenphiagdmaa
open Go.RowKit
set_option linter.unusedVariables false
set_option linter.unusedSimpArgs false
def threeW : List Wire := [⟨0, 1, 1, 0⟩, ⟨1, 2, 2, 3⟩, ⟨2, 1, 0, 3⟩]
theorem Reads.lit {w : World} {size n : Nat} {cs : Array Value} {t : TypeId} (h : cs.size = n * size) : Reads (w.alloc (.cells cs t)) (w.alloc (.cells cs t)).heap.size size (some ⟨w.heap.size, 0, none⟩) n cs.toList := by
  refine ⟨by simpa using h, fun _ => ⟨_, rfl, by simp, fun j u hu => ?_⟩⟩
  have hadd : (⟨w.heap.size, 0, none⟩ : Addr).add j = ⟨w.heap.size, j, none⟩ := by unfold Addr.add; split <;> simp_all
  rw [hadd, (Blk.new w t cs).cell j]
  simpa using hu
def RetT3 (w : World) (e : Ending) (w' : World) : Prop :=
  ∃ A c, e = .returned (.agg #[.int .i64 3, .slice A 3 c, .int .i64 0, .int .i64 0]) ∧ Reads w' w'.heap.size 4 A 3 (wcells threeW) ∧ Below w.heap.size w w'
theorem lthree3 (w : World) : Calls Try.prog 24 #[] w (RetT3 w) := (lthree w).mono fun e w' ⟨A, c, h1, h2, _, h3⟩ => ⟨A, c, h1, h2, h3⟩
set_option maxRecDepth 100000 in
set_option maxHeartbeats 2000000 in
theorem lworks (w : World) : Calls Try.prog 17 #[] w (RetV (.bool true) w) := by
  have H24 := Lib.hid lthree3
  have H20 : Hid (∀ A c w, Reads w w.heap.size 4 A 3 (wcells threeW) → Calls Try.prog 20 #[.agg #[.int .i64 3, .slice A 3 c, .int .i64 0, .int .i64 0], .agg #[.int .i64 1, .int .i64 2]] w (RetV (.tuple #[.agg #[.int .i64 2, .int .i64 3], .bool true]) w)) :=
    Lib.hid fun A c w hr => tPeer 3 0 0 1 2 A 3 c threeW w hr (by decide)
  have H10 : Hid (∀ A c w, Reads w w.heap.size 4 A 3 (wcells threeW) → Calls Try.prog 10 #[.agg #[.int .i64 3, .slice A 3 c, .int .i64 0, .int .i64 0]] w (RetSE [0, 0, 1] 0 w)) :=
    Lib.hid fun A c w hr => tTree 3 0 0 A 3 c threeW w hr (by decide)
  have H13 : Hid (∀ A c w, Reads w w.heap.size 4 A 3 (wcells threeW) → Calls Try.prog 13 #[.agg #[.int .i64 3, .slice A 3 c, .int .i64 0, .int .i64 0], .int .i64 0] w (RetSE [1, 3] 0 w)) :=
    Lib.hid fun A c w hr => tChildren 3 0 0 A 3 c threeW 0 w hr (by decide)
  have H15 : Hid (∀ A c w, Reads w w.heap.size 4 A 3 (wcells threeW) → Calls Try.prog 15 #[.agg #[.int .i64 3, .slice A 3 c, .int .i64 0, .int .i64 0], .int .i64 1, .int .i64 2] w (RetSE [0, 3] 0 w)) :=
    Lib.hid fun A c w hr => tRoute 3 0 0 A 3 c threeW 1 2 w hr (by decide)
  have H12a : Hid (∀ A B c d w, Reads w w.heap.size 1 A 3 (icells [0, 0, 1]) → Reads w w.heap.size 1 B 3 (icells [0, 0, 1]) → Calls Try.prog 12 #[.slice A 3 c, .slice B 3 d] w (RetV (.bool true) w)) :=
    Lib.hid fun A B c d w h1 h2 => rSame A B 3 c 3 d _ _ w h1 h2 (by decide)
  have H12b : Hid (∀ A B c d w, Reads w w.heap.size 1 A 2 (icells [1, 3]) → Reads w w.heap.size 1 B 2 (icells [1, 3]) → Calls Try.prog 12 #[.slice A 2 c, .slice B 2 d] w (RetV (.bool true) w)) :=
    Lib.hid fun A B c d w h1 h2 => rSame A B 2 c 2 d _ _ w h1 h2 (by decide)
  have H12c : Hid (∀ A B c d w, Reads w w.heap.size 1 A 2 (icells [0, 3]) → Reads w w.heap.size 1 B 2 (icells [0, 3]) → Calls Try.prog 12 #[.slice A 2 c, .slice B 2 d] w (RetV (.bool true) w)) :=
    Lib.hid fun A B c d w h1 h2 => rSame A B 2 c 2 d _ _ w h1 h2 (by decide)
  have hp : portEq 2 3 2 3 = true := by decide
  go_enter Try.func17, Try.ntmps17
  go_wp2_with (first
    | (go_at_call 24; refine (H24.out _).mono ?_; clear H24; rintro e w1 ⟨A, c, rfl, hr1, hb1⟩)
    | (go_at_call 20; refine (H20.out _ _ _ (hr1.alloc' _)).mono ?_; clear H20; rintro e w2 ⟨rfl, hb2⟩
       have r2 := (hr1.alloc' (.cells #[.int .i64 3, .slice A 3 c, .int .i64 0, .int .i64 0] 26)).call hb2
       have b2 := (Blk.new w1 26 #[.int .i64 3, .slice A 3 c, .int .i64 0, .int .i64 0]).call hb2
       have k2 : Below w.heap.size w w2 := (hb1.alloc hb1.size (.cells #[.int .i64 3, .slice A 3 c, .int .i64 0, .int .i64 0] 26)).call (by simp; have := hb1.size; omega) hb2
       have l2 := b2.lt
       have c20 := b2.cell 0
       have c21 := b2.cell 1
       have c22 := b2.cell 2
       have c23 := b2.cell 3
       simp at c20 c21 c22 c23
       )
    | (go_at_call 10; refine (H10.out _ _ _ (r2.alloc' _)).mono ?_; clear H10; rintro e w3 ⟨A3, c3, rfl, hr3, hb3⟩
       have r3 := (r2.alloc' (.cells #[.int .i64 2, .int .i64 3] 24)).call hb3
       have b3 := (b2.alloc (.cells #[.int .i64 2, .int .i64 3] 24)).call hb3
       have p3 := (Blk.new w2 24 #[.int .i64 2, .int .i64 3]).call hb3
       have k3 : Below w.heap.size w w3 := (k2.alloc k2.size (.cells #[.int .i64 2, .int .i64 3] 24)).call (by simp; have := k2.size; omega) hb3
       have d20 := b3.cell 0
       have d21 := b3.cell 1
       have d22 := b3.cell 2
       have d23 := b3.cell 3
       simp at d20 d21 d22 d23
       )
    | (go_at_call 13; refine (H13.out _ _ _ r3).mono ?_; clear H13; rintro e w4 ⟨A4, c4, rfl, hr4, hb4⟩
       have r4 := r3.call hb4
       have b4 := b3.call hb4
       have p4 := p3.call hb4
       have k4 := k3.call k3.size hb4
       have t4 := hr3.call hb4
       have e20 := b4.cell 0
       have e21 := b4.cell 1
       have e22 := b4.cell 2
       have e23 := b4.cell 3
       simp at e20 e21 e22 e23
       )
    | (go_at_call 15; refine (H15.out _ _ _ r4).mono ?_; clear H15; rintro e w5 ⟨A5, c5, rfl, hr5, hb5⟩
       have p5 := p4.call hb5
       have k5 := k4.call k4.size hb5
       have t5 := t4.call hb5
       have u5 := hr4.call hb5
       have f20 := p5.cell 0
       have f21 := p5.cell 1
       simp at f20 f21
       )
    | (go_at_call 12; refine (H12a.out _ _ _ _ _ (t5.alloc' _) (Reads.lit (by rfl))).mono ?_; clear H12a; rintro e w6 ⟨rfl, hb6⟩
       have k6 := (k5.alloc k5.size (.cells #[.int .i64 0, .int .i64 0, .int .i64 1] 3)).call (by simp; have := k5.size; omega) hb6
       have u6 := (u5.alloc' (.cells #[.int .i64 0, .int .i64 0, .int .i64 1] 3)).call hb6
       have r6 := (hr5.alloc' (.cells #[.int .i64 0, .int .i64 0, .int .i64 1] 3)).call hb6)
    | (go_at_call 12; refine (H12b.out _ _ _ _ _ (u6.alloc' _) (Reads.lit (by rfl))).mono ?_; clear H12b; rintro e w7 ⟨rfl, hb7⟩
       have k7 := (k6.alloc k6.size (.cells #[.int .i64 1, .int .i64 3] 3)).call (by simp; have := k6.size; omega) hb7
       have r7 := (r6.alloc' (.cells #[.int .i64 1, .int .i64 3] 3)).call hb7)
    | (go_at_call 12; refine (H12c.out _ _ _ _ _ (r7.alloc' _) (Reads.lit (by rfl))).mono ?_; clear H12c; rintro e w8 ⟨rfl, hb8⟩
       have k8 := (k7.alloc k7.size (.cells #[.int .i64 0, .int .i64 3] 3)).call (by simp; have := k7.size; omega) hb8)
    )
  go_ret
  exact ⟨rfl, k8⟩
end Go.Proofs.Ytadpenphiagdmaa
