/- A list of operations that call nothing, run by reckoning: for the long literals. -/
import Derived.Test.YtaakhhnlmldegaaDoorBase
namespace Go.Proofs.YtaakhhnlmldegaaDoor
open Go.RowKit
set_option linter.unusedVariables false
set_option linter.unusedSimpArgs false

def runOps (P : Program) : List Oper → Act → World → Option (Act × World)
  | [], a, w => some (a, w)
  | o :: r, a, w =>
    match o.guard with
    | some _ => none
    | none =>
      match (execOp a.eval o).run P w with
      | .ok (.value v) w' => runOps P r (a.put o.dst v) w'
      | .ok .skip w' => runOps P r (a.put o.dst undef) w'
      | _ => none
theorem wpList_runOps {P : Program} {ops : Array Oper} {Q : Exit → Act → World → Prop} : ∀ (l : List Oper) {a a' : Act} {w w' : World}, runOps P l a w = some (a', w') → Q .normal a' w' → wpList P ops Q l a w
  | [], a, a', w, w', h, hq => by
    simp only [runOps, Option.some.injEq, Prod.mk.injEq] at h
    obtain ⟨rfl, rfl⟩ := h
    exact hq
  | o :: r, a, a', w, w', h, hq => by
    rw [runOps] at h
    cases hg : o.guard with
    | some g => rw [hg] at h; cases h
    | none =>
      rw [hg] at h
      refine wpList_plain hg fun K hK => ?_
      unfold Oper.wp
      cases hr : (execOp a.eval o).run P w with
      | ok x w1 =>
        rw [hr] at h
        cases x with
        | value v => exact hK _ _ (wpList_runOps r h hq)
        | skip => exact hK _ _ (wpList_runOps r h hq)
        | _ => cases h
      | halt x w1 => rw [hr] at h; cases h
theorem wp_region_runOps {P : Program} {id : Nat} {Q : Exit → Act → World → Prop} {a a' : Act} {w w' : World} {l : List Oper} (h : runOps P l a w = some (a', w')) (hq : Q .normal a' w') : (Code.region id l.toArray false).wp P Q a w := by
  refine wp_region ?_
  have e : List.range l.toArray.size = List.range' 0 l.length := by rw [List.range_eq_range']; simp
  rw [e, wpOps_eq_wpList (ops := l.toArray) l 0 (fun j => by simp)]
  exact wpList_runOps l h hq
/-- .. of which one slot is asked. -/
theorem wp_region_slot {P : Program} {id s : Nat} {v : Value} {Q : Exit → Act → World → Prop} {a : Act} {w w' : World} {l : List Oper}
    (h : (runOps P l a w).map (fun x => (x.1.tmps.getD s undef, x.1.defers, x.2)) = some (v, [], w')) (hq : ∀ t : Array Value, t.getD s undef = v → Q .normal { tmps := t, defers := [] } w') : (Code.region id l.toArray false).wp P Q a w := by
  obtain ⟨⟨⟨t, d⟩, w1⟩, h1, h2⟩ := Option.map_eq_some_iff.1 h
  simp only [Prod.mk.injEq] at h2
  obtain ⟨h3, h4, h5⟩ := h2
  subst h4 h5
  exact wp_region_runOps h1 (hq t h3)
end Go.Proofs.YtaakhhnlmldegaaDoor
