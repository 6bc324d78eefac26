/- The law's own functions: wire, three, copied. -/
import Derived.Test.YtadpenphiagdmaaP6
namespace Go.Proofs.Ytadpenphiagdmaa
open Go.RowKit
set_option linter.unusedVariables false
set_option linter.unusedSimpArgs false

set_option maxRecDepth 100000 in
set_option maxHeartbeats 400000 in
theorem lwire (a b c d : Int) (w : World) :
    Calls Try.prog 25 #[.int .i64 a, .int .i64 b, .int .i64 c, .int .i64 d] w (RetV (.agg #[.int .i64 a, .int .i64 b, .int .i64 c, .int .i64 d]) w) := by
  have b0 := Blk.new w 50 #[.int .i64 a, .int .i64 b, .int .i64 c, .int .i64 d]
  have c0 := b0.cell 0
  have c1 := b0.cell 1
  have c2 := b0.cell 2
  have c3 := b0.cell 3
  simp at c0 c1 c2 c3
  go_enter Try.func25, Try.ntmps25
  go_wp2
  refine bodyPost_ret (v := .agg #[.int .i64 a, .int .i64 b, .int .i64 c, .int .i64 d]) (by simp [results, Try.results25, go_sem, c0, c1, c2, c3]) rfl ⟨rfl, ?_⟩
  exact (Below.refl _ _).alloc (Nat.le_refl _) _

/-- A network of so many wires, handed back. -/
def RetT (N hn hl : Int) (ws : List Wire) (w : World) (e : Ending) (w' : World) : Prop :=
  ∃ A c, e = .returned (.agg #[.int .i64 N, .slice A ws.length c, .int .i64 hn, .int .i64 hl]) ∧ Reads w' w'.heap.size 4 A ws.length (wcells ws) ∧ ws.length ≤ c ∧ Below w.heap.size w w'

set_option maxRecDepth 100000 in
set_option maxHeartbeats 400000 in
theorem lthree (w : World) : Calls Try.prog 24 #[] w (RetT 3 0 0 [⟨0, 1, 1, 0⟩, ⟨1, 2, 2, 3⟩, ⟨2, 1, 0, 3⟩] w) := by
  have b0 := Blk.new w 26 #[.int .i64 0, .slice none 0 0, .int .i64 0, .int .i64 0]
  have k0 : Below w.heap.size w (w.alloc (.cells #[.int .i64 0, .slice none 0 0, .int .i64 0, .int .i64 0] 26)) := (Below.refl _ _).alloc (Nat.le_refl _) _
  have HW1 := Lib.hid (fun w => lwire 0 1 1 0 w)
  have HW2 := Lib.hid (fun w => lwire 1 2 2 3 w)
  have HW3 := Lib.hid (fun w => lwire 2 1 0 3 w)
  go_enter Try.func24, Try.ntmps24
  go_wp2_with (go_at_call 25; first
    | (refine (HW1.out _).mono ?_; clear HW1; rintro e w1 ⟨rfl, hb1⟩)
    | (refine (HW2.out _).mono ?_; clear HW2; rintro e w2 ⟨rfl, hb2⟩)
    | (refine (HW3.out _).mono ?_; clear HW3; rintro e w3 ⟨rfl, hb3⟩
       have b3 := ((b0.call hb1).call hb2).call hb3
       have f0 := b3.frozen 0
       have f1 := b3.frozen 1
       have f2 := b3.frozen 2
       have f3 := b3.frozen 3
       have c0 := b3.cell 0
       have c1 := b3.cell 1
       have c2 := b3.cell 2
       have c3 := b3.cell 3
       simp at c0 c1 c2 c3
       have l3 := b3.lt
       have hne : w.heap.size ≠ w3.heap.size := by omega))
  have kB : Below w.heap.size w w3 := ((k0.call k0.size hb1).call (k0.call k0.size hb1).size hb2).call ((k0.call k0.size hb1).call (k0.call k0.size hb1).size hb2).size hb3
  refine bodyPost_ret (v := .agg #[.int .i64 3, .slice (some ⟨w3.heap.size, 0, none⟩) 3 3, .int .i64 0, .int .i64 0]) (by simp [results, Try.results24, go_sem, c0, c1, c2, c3, hne, l3]) rfl
    ⟨some ⟨w3.heap.size, 0, none⟩, 3, rfl, ?_, by simp, ?_⟩
  · refine ⟨rfl, fun _ => ⟨_, rfl, by simp, fun j u hu => ?_⟩⟩
    have hadd : (⟨w3.heap.size, 0, none⟩ : Addr).add j = ⟨w3.heap.size, j, none⟩ := by unfold Addr.add; split <;> simp_all
    rw [hadd]
    have hb := Blk.new ((((w3.setCell ⟨w.heap.size, 0, none⟩ (.int .i64 3)).setCell ⟨w.heap.size, 1, none⟩ (.slice (some ⟨w3.heap.size, 0, none⟩) 3 3)).setCell ⟨w.heap.size, 2, none⟩ (.int .i64 0)).setCell ⟨w.heap.size, 3, none⟩ (.int .i64 0)) 50 (wcells [⟨0, 1, 1, 0⟩, ⟨1, 2, 2, 3⟩, ⟨2, 1, 0, 3⟩]).toArray
    simp only [World.size_setCell] at hb
    rw [← hu, ← List.getElem?_toArray, ← hb.cell j]
    rfl
  · exact ((((kB.setCell (by simp) _).setCell (by simp) _).setCell (by simp) _).setCell (by simp) _).alloc (by simp; omega) _
end Go.Proofs.Ytadpenphiagdmaa
