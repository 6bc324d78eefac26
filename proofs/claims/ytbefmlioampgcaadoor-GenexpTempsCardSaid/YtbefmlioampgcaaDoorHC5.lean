/- The registers of the reference, walked: push, pop, join, truth, word. -/
import Derived.Test.YtbefmlioampgcaaDoorHK3
import Derived.Laws.Rows
namespace Go.Proofs.YtbefmlioampgcaaDoor
open Go.RowKit
set_option linter.unusedVariables false
set_option linter.unusedSimpArgs false

theorem rTruth (b : Bool) (w : World) : Calls Tryd.prog 27 #[.bool b] w (RetQ (.int .i32 (truthL b)) w) := by
  cases b
  all_goals
    go_enter Tryd.func27, Tryd.ntmps27
    go_wp2
    go_ret
    exact ⟨rfl, rfl⟩
theorem regs_size : (Tryd.prog.info? 73).map (·.size) = some 4 := by kernel_rfl
theorem regs_ret {fn : Func} {p : Tmp} (h : fn.results = #[.cell p 73]) (tmps : Array Value) (w W : World) (g : Nat) (r : RegL) (hp : tmps.getD p undef = .pointer (some ⟨g, 0, none⟩)) (hB : Blk W g 73 r.cells) (hk : Below w.heap.size w W) :
    bodyPost Tryd.prog fn (RetV (.agg r.cells) w) Exit.ret { tmps := tmps, defers := [] } W :=
  bodyPost_ret (v := .agg r.cells) (results_cell_row h _ _ g _ _ (0, 0) _ hp hB Tryd.underlying73 rfl regs_size) rfl ⟨rfl, hk⟩
theorem below_2 (w : World) (o o' : Obj) : Below w.heap.size w ((w.alloc o).alloc o') := ((Below.refl _ _).alloc (Nat.le_refl _) _).alloc (by simp) _
theorem blk_2 (w : World) (o : Obj) (t : TypeId) (cs : Array Value) : Blk ((w.alloc o).alloc (.cells cs t)) (w.heap.size + 1) t cs := by
  have := Blk.new (w.alloc o) t cs
  simpa using this
set_option maxRecDepth 100000 in
theorem rPush (r : RegL) (v : Int) (w : World) : Calls Tryd.prog 25 #[.agg r.cells, .int .i32 v] w (RetV (.agg (r.push v).cells) w) := by
  simp only [RegL.cells]
  go_enter Tryd.func25, Tryd.ntmps25
  go_wp2
  exact regs_ret rfl _ _ _ (w.heap.size + 1) (r.push v) rfl (blk_2 _ _ _ _) (below_2 _ _ _)
set_option maxRecDepth 100000 in
theorem rPop (r : RegL) (w : World) : Calls Tryd.prog 29 #[.agg r.cells] w (RetV (.agg r.pop.cells) w) := by
  simp only [RegL.cells]
  go_enter Tryd.func29, Tryd.ntmps29
  go_wp2
  exact regs_ret rfl _ _ _ (w.heap.size + 1) r.pop rfl (blk_2 _ _ _ _) (below_2 _ _ _)
set_option maxRecDepth 100000 in
theorem rJoin (r : RegL) (v : Int) (o : Bool) (w : World) : Calls Tryd.prog 60 #[.agg r.cells, .int .i32 v, .bool o] w (RetV (.agg (r.join (v, o)).cells) w) := by
  obtain ⟨ra, rb, rc, re⟩ := r
  simp only [RegL.cells]
  go_enter Tryd.func60, Tryd.ntmps60
  cases re
  all_goals
    go_wp2
    refine regs_ret rfl _ _ _ (w.heap.size + 1) (RegL.join ⟨ra, rb, rc, _⟩ (v, o)) rfl (blk_2 _ _ _ _) (below_2 _ _ _)
theorem rWordAt (a : Int) (w : World) (ha : is32 a) : Calls Tryd.prog 28 #[.int .i32 a] w (RetQ (.int .i64 (a / 4)) w) := by
  obtain ⟨a0, a1⟩ := ha
  go_enter Tryd.func28, Tryd.ntmps28
  go_wp2
  all_goals
    go_ret
    refine ⟨ri_eq ?_, rfl⟩
    rename_i hq
    have e := tmod_abs (a := a) (b := 4)
    have e2 : (4 : Int).natAbs = 4 := rfl
    rw [e2] at e
    have e3 : ∀ z : Int, -4611686018427387904 ≤ z → z ≤ 4611686018427387904 → wrap64 z = z := fun z h1 h2 => by unfold wrap64; omega
    generalize a.tmod 4 = t at *
    split at e
    all_goals
      first
        | (exfalso; omega)
        | (rw [e3 (a - _) (by omega) (by omega)]
           rw [Int.tdiv_eq_ediv_of_dvd (by omega)]
           rw [e3 _ (by omega) (by omega)]
           omega)
        | (rw [e3 (t + 4) (by omega) (by omega), e3 (a - _) (by omega) (by omega)]
           rw [Int.tdiv_eq_ediv_of_dvd (by omega)]
           rw [e3 _ (by omega) (by omega)]
           omega)
end Go.Proofs.YtbefmlioampgcaaDoor
