/- Words on a range over a function: the wide fence, what a round keeps, an invariant that abides new blocks. -/
import Derived.Test.YtaakhhnlmldegaaDoorBase
import Derived.RangeFuncNested
import Derived.RangeFuncBound
import Derived.RangeFuncCalls
import Derived.RangeFuncLeaves
import Derived.RangeFuncFrom
import Derived.Shelf.Abstract
import Derived.Shelf.RegionOpen
import Derived.OwnWalkIn
import Derived.TacticsInMore
import Derived.LoopNIn
import Derived.LoopIn
namespace Go.Proofs.YtaakhhnlmldegaaDoor
open Go.RowKit
set_option linter.unusedVariables false
set_option linter.unusedSimpArgs false

theorem arrivesIn_wide {P : Program} {m : Machine} {b : Frame} (hro : b.roundOf = none) {k : List Item} {cs : List Frame} {e : Exit} {a : Act} {w : World} (h : Arrives P m b k cs e a w) :
    ArrivesIn (Machine.fenced P Fence.wide) P m b k cs e a w := by
  have hs : b.roundOf.isSome = true → False := fun h => by rw [hro] at h; cases h
  cases e with
  | normal => exact stepsIn_wide.2 (by rw [Frame.atR_of_none hro]; exact h)
  | exit id => exact ⟨fun k' hk => stepsIn_wide.2 (by rw [Frame.atR_of_none hro]; exact h k' hk), fun h => (hs h).elim⟩
  | goto l => exact ⟨fun k' hk => stepsIn_wide.2 (by rw [Frame.atR_of_none hro]; exact h k' hk), fun h => (hs h).elim⟩
  | ret =>
    obtain ⟨todo, hq⟩ := h
    exact ⟨fun _ => ⟨todo, stepsIn_wide.2 (by rw [Frame.atR_of_none hro]; exact hq)⟩, fun h => (hs h).elim⟩
  | panic chain =>
    obtain ⟨todo, hq⟩ := h
    exact ⟨todo, stepsIn_wide.2 (by rw [Frame.atR_of_none hro]; exact hq)⟩
  | outgrown => exact h
/-- At the wide fence, outside every round, a walk without a fence serves. -/
theorem wpIn_wide_of_wp {P : Program} {n : Nat} {c : Code} {Q : Exit → Act → World → Prop} {a : Act} {w : World} (h : c.wp P Q a w) : c.wpIn Fence.wide n P Q a w := by
  intro b k cs hro hb hr
  obtain ⟨e, a', w', hq, harr⟩ := h b k cs
  refine ⟨e, a', w', hq, arrivesIn_wide hro ?_⟩
  rw [Frame.atR_of_none hro]; exact harr

/-- All blocks of cells but those of X lie as they lay. -/
structure KeepC (X : Nat → Prop) (A B : World) : Prop where
  size : A.heap.size ≤ B.heap.size
  block : ∀ k cs t f, ¬ X k → A.heap[k]? = some (.cells cs t f) → B.heap[k]? = some (.cells cs t f)
theorem KeepC.refl (X : Nat → Prop) (A : World) : KeepC X A A := ⟨Nat.le_refl _, fun _ _ _ _ _ h => h⟩
theorem KeepC.trans {X : Nat → Prop} {A B C : World} (h : KeepC X A B) (k : KeepC X B C) : KeepC X A C :=
  ⟨Nat.le_trans h.size k.size, fun i cs t f hx ho => k.block i cs t f hx (h.block i cs t f hx ho)⟩
theorem KeepC.put (X : Nat → Prop) (W : World) (l : Nat) (o o' : Obj) (h : W.heap[l]? = some o) (hc : o.isCells = false) : KeepC X W (W.putObj l o') := by
  refine ⟨by simp [World.putObj], fun k cs t f _ ho => ?_⟩
  by_cases hk : k = l
  · subst hk; rw [h] at ho; injection ho with ho; subst ho; cases hc
  · rw [World.putObj_heap_other hk]; exact ho
theorem KeepC.alloc (X : Nat → Prop) (A : World) (o : Obj) : KeepC X A (A.alloc o) :=
  ⟨by simp, fun k cs t f _ h => (Below.heap_alloc A o k (Array.getElem?_eq_some_iff.1 h).1).trans h⟩
theorem KeepC.set (X : Nat → Prop) (A : World) {p : Addr} (hp : X p.block) (u : Value) : KeepC X A (A.setCell p u) :=
  ⟨by simp, fun k cs t f hk h => (Below.heap_setCell A p u k (by rintro rfl; exact hk hp)).trans h⟩
theorem abides_below {β : Type} {B : Nat} {J : β → World → Prop} (h : AbidesFrom B J) {s : β} {W W' : World} (hs : J s W) (hb : Below W.heap.size W W') : J s W' :=
  h s W W' none hs ⟨hb.os, hb.tape, hb.output, hb.size, fun k hk _ => hb.block k hk⟩ (fun r e => by cases e)
end Go.Proofs.YtaakhhnlmldegaaDoor
