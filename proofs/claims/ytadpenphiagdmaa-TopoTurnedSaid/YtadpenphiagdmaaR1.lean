/- A range over a function whose body always goes on, where the iterator writes blocks of its own: one law. -/
import Derived.Test.YtadpenphiagdmaaM2
import Derived.RangeFuncNested
import Derived.RangeFuncBound
import Derived.RangeFuncCalls
import Derived.RangeFuncLeaves
import Derived.OwnWalkIn
import Derived.TacticsInMore
import Derived.LoopNIn
import Derived.LoopIn
namespace Go.Proofs.Ytadpenphiagdmaa
open Go.RowKit
set_option linter.unusedVariables false
set_option linter.unusedSimpArgs false

theorem arrivesIn_wide {P : Program} {m : Machine} {b : Frame} (hro : b.roundOf = none) {k : List Item} {cs : List Frame} {e : Exit} {a : Act} {w : World} (h : Arrives P m b k cs e a w) :
    ArrivesIn (Machine.fenced P Fence.wide) P m b k cs e a w := by
  have hs : b.roundOf.isSome = true → False := fun h => by rw [hro] at h; cases h
  cases e with
  | normal => exact stepsIn_wide.2 (by rw [Frame.atR_of_none hro]; exact h)
  | exit id => exact ⟨fun k' hk => stepsIn_wide.2 (by rw [Frame.atR_of_none hro]; exact h k' hk), fun h => (hs h).elim⟩
  | goto l => exact ⟨fun k' hk => stepsIn_wide.2 (by rw [Frame.atR_of_none hro]; exact h k' hk), fun h => (hs h).elim⟩
  | ret =>
    obtain ⟨todo, hq⟩ := h
    exact ⟨fun _ => ⟨todo, stepsIn_wide.2 (by rw [Frame.atR_of_none hro]; exact hq)⟩, fun h => (hs h).elim⟩
  | panic chain =>
    obtain ⟨todo, hq⟩ := h
    exact ⟨todo, stepsIn_wide.2 (by rw [Frame.atR_of_none hro]; exact hq)⟩
  | outgrown => exact h
/-- At the wide fence, outside every round, a walk without a fence serves. -/
theorem wpIn_wide_of_wp {P : Program} {n : Nat} {c : Code} {Q : Exit → Act → World → Prop} {a : Act} {w : World} (h : c.wp P Q a w) : c.wpIn Fence.wide n P Q a w := by
  intro b k cs hro hb hr
  obtain ⟨e, a', w', hq, harr⟩ := h b k cs
  refine ⟨e, a', w', hq, arrivesIn_wide hro ?_⟩
  rw [Frame.atR_of_none hro]; exact harr

def isLoopB : Obj → Bool
  | .loop _ => true
  | _ => false
/-- All blocks but those of X, and but the loops' own records, lie as they lay. -/
structure KeepX (X : Nat → Prop) (A B : World) : Prop where
  size : A.heap.size ≤ B.heap.size
  block : ∀ k o, ¬ X k → A.heap[k]? = some o → isLoopB o = false → B.heap[k]? = some o
theorem KeepX.refl (X : Nat → Prop) (A : World) : KeepX X A A := ⟨Nat.le_refl _, fun _ _ _ h _ => h⟩
theorem KeepX.trans {X : Nat → Prop} {A B C : World} (h : KeepX X A B) (k : KeepX X B C) : KeepX X A C :=
  ⟨Nat.le_trans h.size k.size, fun i o hx ho hl => k.block i o hx (h.block i o hx ho hl) hl⟩
theorem KeepX.putLoop (X : Nat → Prop) {W : World} {l : Nat} {r r' : Loop} (h : W.heap[l]? = some (.loop r)) : KeepX X W (W.putObj l (.loop r')) := by
  refine ⟨by simp [World.putObj], fun k o _ ho hl => ?_⟩
  by_cases hk : k = l
  · subst hk; rw [h] at ho; injection ho with ho; subst ho; cases hl
  · rw [World.putObj_heap_other hk]; exact ho

/-- An invariant that speaks of blocks below B alone. -/
def Deep {β : Type} (B : Nat) (J : β → World → Prop) : Prop :=
  ∀ s W W', J s W → Below B W W' → J s W'

/-- The iterator hands over just xs, whatever the body does within its word. -/
def SeqAll {α : Type} (F : Fence) (n : Nat) (P : Program) (gf : Nat) (lb : Array Value) (encs : α → Array Value) (X : Nat → Prop) (xs : List α) (w : World) : Prop :=
  ∀ (l : Nat) (J : List α → World → Prop) (W : World), Below w.heap.size w W → Deep W.heap.size J →
    (∀ pre x r W1, J pre W1 → xs = pre ++ x :: r → YieldAt F (n - 1) P l (encs x) W1 fun e W' => e = .returned (.bool true) ∧ J (pre ++ [x]) W' ∧ KeepX X W1 W') →
    J [] W → CallsIn F n P gf (#[.func (.yield l) #[] #[]] ++ lb) W fun e W' => (∃ v, e = .returned v) ∧ J xs W'

def goesOn (X : Nat → Prop) (W : World) (R : World → Prop) : Exit → Act → World → Prop
  | .normal, _, W' => KeepX X W W' ∧ (∀ (k : Nat) (r : Loop), W.heap[k]? = some (Obj.loop r) → W'.heap[k]? = some (Obj.loop r)) ∧ R W'
  | _, _, _ => False

theorem wpIn_range_all {P : Program} {F : Fence} {n : Nat} {α : Type} {g : Operand} {ps : Array Tmp} {assign body : Code} {Q : Exit → Act → World → Prop} {a : Act} {w : World}
    (hro : F.round = none) (hdp : F.depth = none) {gf : Nat} {lb : Array Value} (hg : a.eval g = .func (.func gf) #[] lb) (hFg : F.fn gf) (eg : ∀ args w, (callFunc gf args).run P w = .ok (.enter gf args) w)
    {encs : α → Array Value} {X : Nat → Prop} (hX : ∀ k, X k → k < w.heap.size) {xs : List α} {w0 : World} (hseq : SeqAll F (n - 1) P gf lb encs X xs w0) (hb0 : Below w0.heap.size w0 w) (hps : ∀ x, (encs x).size = ps.size)
    (I : List α → World → Prop) (hI : Deep w.heap.size I) (h0 : I [] w)
    (hround : ∀ (l : Nat) (pre : List α) (x : α) (r : List α) (W : World), I pre W → xs = pre ++ x :: r → w.heap.size + 2 ≤ W.heap.size →
      assign.wpIn (F.inRound l) (n - 1 - 1) P (Exit.then (fun a₁ W1 => KeepX X W W1 ∧ (∀ (k : Nat) (r : Loop), W.heap[k]? = some (Obj.loop r) → W1.heap[k]? = some (Obj.loop r)) ∧
        ∀ W2, W1.grownBy W2 (some l) → (w.heap.size ≤ l ∧ l < w.heap.size + 2) → body.wpIn (F.inRound l) (n - 1 - 1) P (goesOn X W2 (I (pre ++ [x]))) a₁ W2) (fun _ _ _ => False))
        { tmps := (ps.zip (encs x)).foldl (fun t (p, v) => t.setIfInBounds p v) a.tmps, defers := [] } W)
    (hdone : ∀ (D : Nat) (W : World), I xs W → W.heap[D]? = some (.deferred (some [])) → w.heap.size ≤ D → Q .normal { a with defers := { target := .collected D, args := #[] } :: a.defers } W) :
    (Code.rangeFunc g ps assign body).wpIn F n P Q a w := by
  refine wpIn_rangeFunc ?_
  intro fn hfn
  rw [hro]
  obtain ⟨rec, hrec⟩ : ∃ rec : LoopState → Loop, rec = fun st => { state := st, pending := none, fn, tmps := a.tmps, params := ps, assign, body, defers := w.heap.size } := ⟨_, rfl⟩
  obtain ⟨W1, hW1⟩ : ∃ W1, (w.alloc (.deferred (some []))).alloc (.loop (rec .ready)) = W1 := ⟨_, rfl⟩
  have hsz : W1.heap.size = w.heap.size + 2 := by rw [← hW1]; simp
  have hL1 : W1.heap[w.heap.size + 1]? = some (.loop (rec .ready)) := by
    rw [← hW1]; have := World.alloc_heap_new (w.alloc (.deferred (some []))) (.loop (rec .ready)); rwa [World.size_alloc] at this
  have hK1 : W1.heap[w.heap.size]? = some (.deferred (some [])) := by
    rw [← hW1]; exact (Below.heap_alloc _ _ _ (by simp)).trans (World.alloc_heap_new w _)
  have hI1 : I [] W1 := by
    rw [← hW1]
    exact hI _ _ _ h0 (((Below.refl _ _).alloc (Nat.le_refl _) _).alloc (by simp) _)
  have hb1 : Below w0.heap.size w0 W1 := by
    rw [← hW1]; exact hb0.trans ((((Below.refl _ w).alloc (Nat.le_refl _) _).alloc (by simp) _).mono hb0.size)
  refine ⟨w.heap.size + 1, [{ target := .collected w.heap.size, args := #[] }], W1, { target := .fn (.func gf) lb, args := #[.func (.yield (w.heap.size + 1)) #[] #[]] }, W1, gf,
    #[.func (.yield (w.heap.size + 1)) #[] #[]] ++ lb, W1, ?_, ?_, ?_, ?_, (fun h => by rw [hdp] at h; cases h), ?_⟩
  · rw [← hW1, hrec]; exact run_enterLoop_outer _ _ _ _ _
  · simp only [resolve, hg]
    simp [go_sem]
  · intro f' hf'; simp [Target.leads] at hf'; subst hf'; exact hFg
  · simp [invoke, go_sem, eg]
  · refine (hseq (w.heap.size + 1)
      (fun pre W => I pre W ∧ W.heap[w.heap.size + 1]? = some (.loop (rec .ready)) ∧ W.heap[w.heap.size]? = some (.deferred (some [])) ∧ w.heap.size + 2 ≤ W.heap.size)
      W1 hb1 ?_ ?_ ⟨hI1, hL1, hK1, by omega⟩).mono ?_
    · rintro s A B ⟨hs, hl, hk, hz⟩ hgr
      refine ⟨hI s A B hs (hgr.mono (by omega)), ?_, ?_, Nat.le_trans hz hgr.size⟩
      · rw [hgr.block _ (by omega)]; exact hl
      · rw [hgr.block _ (by omega)]; exact hk
    · rintro pre x r W ⟨hi, hl, hk, hz⟩ hxs
      have hy := run_yield (P := P) (args := encs x) hl (by rw [hrec]; exact hps x)
      rw [hrec] at hy
      refine ⟨fn, _, assign, body, hy, roundIn_of_wpIn hfn (wpIn_mono (hround (w.heap.size + 1) pre x r W hi hxs hz) ?_)⟩
      rintro e a1 W2 hp
      cases e with
      | normal =>
        obtain ⟨hkx, hlp, hbody⟩ := hp
        have hl2 := hlp _ _ hl
        have hbl : ¬ X (w.heap.size) := fun h => by have := hX _ h; omega
        have hk2 := hkx.block _ _ hbl hk rfl
        refine ⟨_, run_beginRound hl2 (by rw [hrec]), ?_⟩
        have hl3 : (W2.putObj (w.heap.size + 1) (.loop { rec .ready with state := .busy })).heap[w.heap.size + 1]? = some (.loop { rec .ready with state := .busy }) := World.putObj_heap_same (Array.getElem?_eq_some_iff.1 hl2).1
        have hk3 : (W2.putObj (w.heap.size + 1) (.loop { rec .ready with state := .busy })).heap[w.heap.size]? = some (.deferred (some [])) := (World.putObj_heap_other (by omega)).trans hk2
        have kx3 := hkx.trans (KeepX.putLoop X hl2 (r' := { rec .ready with state := .busy }))
        refine wpIn_mono (hbody _ (grownBy_putObj' W2 _ _) ⟨by omega, by omega⟩) ?_
        rintro e a2 W4 hp4
        cases e with
        | normal =>
          obtain ⟨kx4, lp4, hi4⟩ := hp4
          have hl4 := lp4 _ _ hl3
          have hk4 := kx4.block _ _ hbl hk3 rfl
          have her := run_endRound (P := P) none hl4
          have hfin : ({ rec .ready with state := .busy } : Loop) = { rec .ready with state := .busy } := rfl
          refine ⟨_, _, her, rfl, ⟨hI _ _ _ hi4 ((Below.refl _ _).putObj (by omega) _), ?_, ?_, ?_⟩, (kx3.trans kx4).trans (KeepX.putLoop X hl4)⟩
          · rw [World.putObj_heap_same (Array.getElem?_eq_some_iff.1 hl4).1, hrec]; rfl
          · exact (World.putObj_heap_other (by omega)).trans hk4
          · have h1 := (kx3.trans kx4).size
            simp [World.putObj] at h1 ⊢; omega
        | _ => exact hp4.elim
      | _ => exact hp.elim
    · rintro e W2 ⟨⟨v, rfl⟩, hi, hl, hk, hz⟩
      refine ⟨none, _, by have := run_endLoop (P := P) hl (by rw [hrec]; simp); rw [hrec] at this; exact this, ?_⟩
      exact hdone _ _ (hI _ _ _ hi ((Below.refl _ _).putObj (by omega) _)) ((World.putObj_heap_other (by omega)).trans hk) (Nat.le_refl _)
end Go.Proofs.Ytadpenphiagdmaa
