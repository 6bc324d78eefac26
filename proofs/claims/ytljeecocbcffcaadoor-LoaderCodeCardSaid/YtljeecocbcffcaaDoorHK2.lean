/- Texts that belong together, joined: what each one holds is told ahead of it. -/
import Derived.Test.YtljeecocbcffcaaDoorHK1
import Derived.RangeFuncNested
import Derived.RangeFuncBound
import Derived.RangeFuncCalls
import Derived.RangeFuncLeaves
import Derived.RangeFuncFrom
import Derived.Shelf.Abstract
import Derived.Shelf.RegionOpen
import Derived.OwnWalkIn
import Derived.TacticsInMore
import Derived.LoopNIn
import Derived.LoopIn
import Derived.Deep.Quiet
import Derived.ProofKit
import Derived.SizedLaws
import Derived.Test.YtljeecocbcffcaaDoorRows
import Derived.Handed
import Derived.HandedShaped
import Derived.Shelf.Vars
/- Words on a range over a function: the wide fence, what a round keeps, an invariant that abides new blocks. -/
namespace Go.Proofs.YtljeecocbcffcaaDoor
open Go.RowKit
set_option linter.unusedVariables false
set_option linter.unusedSimpArgs false

theorem arrivesIn_wide {P : Program} {m : Machine} {b : Frame} (hro : b.roundOf = none) {k : List Item} {cs : List Frame} {e : Exit} {a : Act} {w : World} (h : Arrives P m b k cs e a w) :
    ArrivesIn (Machine.fenced P Fence.wide) P m b k cs e a w := by
  have hs : b.roundOf.isSome = true → False := fun h => by rw [hro] at h; cases h
  cases e with
  | normal => exact stepsIn_wide.2 (by rw [Frame.atR_of_none hro]; exact h)
  | exit id => exact ⟨fun k' hk => stepsIn_wide.2 (by rw [Frame.atR_of_none hro]; exact h k' hk), fun h => (hs h).elim⟩
  | goto l => exact ⟨fun k' hk => stepsIn_wide.2 (by rw [Frame.atR_of_none hro]; exact h k' hk), fun h => (hs h).elim⟩
  | ret =>
    obtain ⟨todo, hq⟩ := h
    exact ⟨fun _ => ⟨todo, stepsIn_wide.2 (by rw [Frame.atR_of_none hro]; exact hq)⟩, fun h => (hs h).elim⟩
  | panic chain =>
    obtain ⟨todo, hq⟩ := h
    exact ⟨todo, stepsIn_wide.2 (by rw [Frame.atR_of_none hro]; exact hq)⟩
  | outgrown => exact h
/-- At the wide fence, outside every round, a walk without a fence serves. -/
theorem wpIn_wide_of_wp {P : Program} {n : Nat} {c : Code} {Q : Exit → Act → World → Prop} {a : Act} {w : World} (h : c.wp P Q a w) : c.wpIn Fence.wide n P Q a w := by
  intro b k cs hro hb hr
  obtain ⟨e, a', w', hq, harr⟩ := h b k cs
  refine ⟨e, a', w', hq, arrivesIn_wide hro ?_⟩
  rw [Frame.atR_of_none hro]; exact harr

/-- All blocks of cells but those of X lie as they lay. -/
structure KeepC (X : Nat → Prop) (A B : World) : Prop where
  size : A.heap.size ≤ B.heap.size
  block : ∀ k cs t f, ¬ X k → A.heap[k]? = some (.cells cs t f) → B.heap[k]? = some (.cells cs t f)
theorem KeepC.refl (X : Nat → Prop) (A : World) : KeepC X A A := ⟨Nat.le_refl _, fun _ _ _ _ _ h => h⟩
theorem KeepC.trans {X : Nat → Prop} {A B C : World} (h : KeepC X A B) (k : KeepC X B C) : KeepC X A C :=
  ⟨Nat.le_trans h.size k.size, fun i cs t f hx ho => k.block i cs t f hx (h.block i cs t f hx ho)⟩
theorem KeepC.put (X : Nat → Prop) (W : World) (l : Nat) (o o' : Obj) (h : W.heap[l]? = some o) (hc : o.isCells = false) : KeepC X W (W.putObj l o') := by
  refine ⟨by simp [World.putObj], fun k cs t f _ ho => ?_⟩
  by_cases hk : k = l
  · subst hk; rw [h] at ho; injection ho with ho; subst ho; cases hc
  · rw [World.putObj_heap_other hk]; exact ho
theorem KeepC.alloc (X : Nat → Prop) (A : World) (o : Obj) : KeepC X A (A.alloc o) :=
  ⟨by simp, fun k cs t f _ h => (Below.heap_alloc A o k (Array.getElem?_eq_some_iff.1 h).1).trans h⟩
theorem KeepC.set (X : Nat → Prop) (A : World) {p : Addr} (hp : X p.block) (u : Value) : KeepC X A (A.setCell p u) :=
  ⟨by simp, fun k cs t f hk h => (Below.heap_setCell A p u k (by rintro rfl; exact hk hp)).trans h⟩
theorem abides_below {β : Type} {B : Nat} {J : β → World → Prop} (h : AbidesFrom B J) {s : β} {W W' : World} (hs : J s W) (hb : Below W.heap.size W W') : J s W' :=
  h s W W' none hs ⟨hb.os, hb.tape, hb.output, hb.size, fun k hk _ => hb.block k hk⟩ (fun r e => by cases e)
end Go.Proofs.YtljeecocbcffcaaDoor

/- A range over a function whose body may leave the loop: one law. -/
namespace Go.Proofs.YtljeecocbcffcaaDoor
open Go.RowKit
set_option linter.unusedVariables false
set_option linter.unusedSimpArgs false

theorem _root_.Go.RowKit.Below.putObj {B : Nat} {a w : World} (h : Below B a w) {b : Nat} (hb : B ≤ b) (o : Obj) : Below B a (w.putObj b o) :=
  h.trans ⟨rfl, rfl, rfl, by simp [World.putObj], fun k hk => World.putObj_heap_other (by omega)⟩
/-- An invariant that speaks of blocks below B alone. -/
def Deep {β : Type} (B : Nat) (J : β → World → Prop) : Prop :=
  ∀ s W W', J s W → Below B W W' → J s W'
/-- The iterator hands over xs, or a part of it where a round has said 'no more', whatever the body does within its word. -/
def SeqUntil {α : Type} (F : Fence) (n : Nat) (P : Program) (gf : Nat) (lb : Array Value) (encs : α → Array Value) (X : Nat → Prop) (xs : List α) (w : World) : Prop :=
  ∀ (l : Nat) (J Jx : List α → World → Prop) (W : World), Below w.heap.size w W → Deep W.heap.size J → Deep W.heap.size Jx →
    (∀ pre x r W1, J pre W1 → xs = pre ++ x :: r → YieldAt F (n - 1) P l (encs x) W1 fun e W' => (e = .returned (.bool true) ∧ J (pre ++ [x]) W' ∧ KeepC X W1 W') ∨ (e = .returned (.bool false) ∧ Jx (pre ++ [x]) W')) →
    J [] W → CallsIn F n P gf (#[.func (.yield l) #[] #[]] ++ lb) W fun e W' => (∃ v, e = .returned v) ∧ (J xs W' ∨ ∃ pre x r, xs = pre ++ x :: r ∧ Jx (pre ++ [x]) W')

def goesOnX (X : Nat → Prop) (W : World) (R : World → Prop) (Rx : Code → World → Prop) : Exit → Act → World → Prop
  | .normal, _, W' => KeepC X W W' ∧ KeepsOthers W W' ∧ R W'
  | .ret, _, W' => KeepsOthers W W' ∧ Rx .ret W'
  | .exit id, _, W' => KeepsOthers W W' ∧ Rx (.exit id) W'
  | .goto t, _, W' => KeepsOthers W W' ∧ Rx (.goto t) W'
  | _, _, _ => False

theorem wpIn_range_until {P : Program} {F : Fence} {n : Nat} {α : Type} {g : Operand} {ps : Array Tmp} {assign body : Code} {Q : Exit → Act → World → Prop} {a : Act} {w : World}
    (hro : F.round = none) (hdp : F.depth = none) {gf : Nat} {lb : Array Value} (hg : a.eval g = .func (.func gf) #[] lb) (hFg : F.fn gf) (eg : ∀ args w, (callFunc gf args).run P w = .ok (.enter gf args) w)
    {encs : α → Array Value} {X : Nat → Prop} {xs : List α} {w0 : World} (hseq : SeqUntil F (n - 1) P gf lb encs X xs w0) (hb0 : Below w0.heap.size w0 w) (hps : ∀ x, (encs x).size = ps.size)
    (I : List α → World → Prop) (Ix : Code → List α → World → Prop) (hI : Deep w.heap.size I) (hIx : ∀ c, Deep w.heap.size (Ix c)) (h0 : I [] w)
    (hround : ∀ (l : Nat) (pre : List α) (x : α) (r : List α) (W : World), I pre W → xs = pre ++ x :: r → w.heap.size + 2 ≤ W.heap.size →
      assign.wpIn (F.inRound l) (n - 1 - 1) P (Exit.then (fun a₁ W1 => KeepC X W W1 ∧ KeepsOthers W W1 ∧
        ∀ W2, W1.grownBy W2 (some l) → (w.heap.size ≤ l ∧ l < w.heap.size + 2) → body.wpIn (F.inRound l) (n - 1 - 1) P (goesOnX X W2 (I (pre ++ [x])) (fun c => Ix c (pre ++ [x]))) a₁ W2) (fun _ _ _ => False))
        { tmps := (ps.zip (encs x)).foldl (fun t (p, v) => t.setIfInBounds p v) a.tmps, defers := [] } W)
    (hdone : ∀ (D : Nat) (W : World), I xs W → W.heap[D]? = some (.deferred (some [])) → w.heap.size ≤ D → Q .normal { a with defers := { target := .collected D, args := #[] } :: a.defers } W)
    (hstop : ∀ (D : Nat) (c : Code) (pre : List α) (x : α) (r : List α) (W : World), xs = pre ++ x :: r → Ix c (pre ++ [x]) W → W.heap[D]? = some (.deferred (some [])) → w.heap.size ≤ D → c.wpIn F n P Q { a with defers := { target := .collected D, args := #[] } :: a.defers } W) :
    (Code.rangeFunc g ps assign body).wpIn F n P Q a w := by
  refine wpIn_rangeFunc ?_
  intro fn hfn
  rw [hro]
  obtain ⟨rec, hrec⟩ : ∃ rec : LoopState → Option Code → Loop, rec = fun st pe => { state := st, pending := pe, fn, tmps := a.tmps, params := ps, assign, body, defers := w.heap.size } := ⟨_, rfl⟩
  obtain ⟨W1, hW1⟩ : ∃ W1, (w.alloc (.deferred (some []))).alloc (.loop (rec .ready none)) = W1 := ⟨_, rfl⟩
  have hsz : W1.heap.size = w.heap.size + 2 := by rw [← hW1]; simp
  have hL1 : W1.heap[w.heap.size + 1]? = some (.loop (rec .ready none)) := by
    rw [← hW1]; have := World.alloc_heap_new (w.alloc (.deferred (some []))) (.loop (rec .ready none)); rwa [World.size_alloc] at this
  have hK1 : W1.heap[w.heap.size]? = some (.deferred (some [])) := by
    rw [← hW1]; exact (Below.heap_alloc _ _ _ (by simp)).trans (World.alloc_heap_new w _)
  have hI1 : I [] W1 := by
    rw [← hW1]
    exact hI _ _ _ h0 (((Below.refl _ _).alloc (Nat.le_refl _) _).alloc (by simp) _)
  have hb1 : Below w0.heap.size w0 W1 := by
    rw [← hW1]; exact hb0.trans ((((Below.refl _ w).alloc (Nat.le_refl _) _).alloc (by simp) _).mono hb0.size)
  refine ⟨w.heap.size + 1, [{ target := .collected w.heap.size, args := #[] }], W1, { target := .fn (.func gf) lb, args := #[.func (.yield (w.heap.size + 1)) #[] #[]] }, W1, gf,
    #[.func (.yield (w.heap.size + 1)) #[] #[]] ++ lb, W1, ?_, ?_, ?_, ?_, (fun h => by rw [hdp] at h; cases h), ?_⟩
  · rw [← hW1, hrec]; exact run_enterLoop_outer _ _ _ _ _
  · simp only [resolve, hg]
    simp [go_sem]
  · intro f' hf'; simp [Target.leads] at hf'; subst hf'; exact hFg
  · simp [invoke, go_sem, eg]
  · refine (hseq (w.heap.size + 1)
      (fun pre W => I pre W ∧ W.heap[w.heap.size + 1]? = some (.loop (rec .ready none)) ∧ W.heap[w.heap.size]? = some (.deferred (some [])) ∧ w.heap.size + 2 ≤ W.heap.size)
      (fun pre W => ∃ c, Ix c pre W ∧ W.heap[w.heap.size + 1]? = some (.loop (rec .done (some c))) ∧ W.heap[w.heap.size]? = some (.deferred (some [])))
      W1 hb1 ?_ ?_ ?_ ⟨hI1, hL1, hK1, by omega⟩).mono ?_
    · rintro s A B ⟨hs, hl, hk, hz⟩ hgr
      refine ⟨hI s A B hs (hgr.mono (by omega)), ?_, ?_, Nat.le_trans hz hgr.size⟩
      · rw [hgr.block _ (by omega)]; exact hl
      · rw [hgr.block _ (by omega)]; exact hk
    · rintro s A B ⟨c, hs, hl, hk⟩ hgr
      refine ⟨c, hIx c s A B hs (hgr.mono (by omega)), ?_, ?_⟩
      · rw [hgr.block _ (by omega)]; exact hl
      · rw [hgr.block _ (by omega)]; exact hk
    · rintro pre x r W ⟨hi, hl, hk, hz⟩ hxs
      have hy := run_yield (P := P) (args := encs x) hl (by rw [hrec]; exact hps x)
      rw [hrec] at hy
      refine ⟨fn, _, assign, body, hy, roundIn_of_wpIn hfn (wpIn_mono (hround (w.heap.size + 1) pre x r W hi hxs hz) ?_)⟩
      rintro e a1 W2 hp
      cases e with
      | normal =>
        obtain ⟨hkx, hlp, hbody⟩ := hp
        have hl2 := hlp.same _ _ hl rfl
        have hk2 := hlp.same _ _ hk rfl
        refine ⟨_, run_beginRound hl2 (by rw [hrec]), ?_⟩
        have hl3 : (W2.putObj (w.heap.size + 1) (.loop { rec .ready none with state := .busy })).heap[w.heap.size + 1]? = some (.loop { rec .ready none with state := .busy }) := World.putObj_heap_same (Array.getElem?_eq_some_iff.1 hl2).1
        have hk3 : (W2.putObj (w.heap.size + 1) (.loop { rec .ready none with state := .busy })).heap[w.heap.size]? = some (.deferred (some [])) := (World.putObj_heap_other (by omega)).trans hk2
        have kx3 := hkx.trans (KeepC.put X W2 _ _ (.loop { rec .ready none with state := .busy }) hl2 rfl)
        have fin : ∀ (jump : Option Code) (W3 : World), KeepsOthers (W2.putObj (w.heap.size + 1) (.loop { rec .ready none with state := .busy })) W3 →
            (Instr.endRound (w.heap.size + 1) jump).run P W3 = .ok (.bool jump.isNone) (W3.putObj (w.heap.size + 1) (.loop (rec (if jump.isNone then .ready else .done) jump))) ∧
            W3.heap[w.heap.size + 1]? = some (.loop { rec .ready none with state := .busy }) ∧
            (W3.putObj (w.heap.size + 1) (.loop (rec (if jump.isNone then .ready else .done) jump))).heap[w.heap.size + 1]? = some (.loop (rec (if jump.isNone then .ready else .done) jump)) ∧
            (W3.putObj (w.heap.size + 1) (.loop (rec (if jump.isNone then .ready else .done) jump))).heap[w.heap.size]? = some (.deferred (some [])) := fun jump W3 hk4 => by
          have hl4 := hk4.same _ _ hl3 rfl
          have := run_endRound (P := P) jump hl4
          rw [hrec] at this ⊢
          exact ⟨this, by rw [hrec] at hl4; exact hl4, World.putObj_heap_same (Array.getElem?_eq_some_iff.1 hl4).1, (World.putObj_heap_other (by omega)).trans (hk4.same _ _ hk3 rfl)⟩
        refine wpIn_mono (hbody _ (grownBy_putObj' W2 _ _) ⟨by omega, by omega⟩) ?_
        rintro e a2 W4 hp4
        cases e with
        | normal =>
          obtain ⟨kx4, lp4, hi4⟩ := hp4
          obtain ⟨hr, hl4, hl5, hk5⟩ := fin none W4 lp4
          refine ⟨_, _, hr, .inl ⟨rfl, ⟨hI _ _ _ hi4 ((Below.refl _ _).putObj (by omega) _), hl5, hk5, ?_⟩, (kx3.trans kx4).trans (KeepC.put X W4 _ _ _ hl4 rfl)⟩⟩
          have h1 := (kx3.trans kx4).size
          simp [World.putObj] at h1 ⊢; omega
        | ret =>
          obtain ⟨lp4, hi4⟩ := hp4
          obtain ⟨hr, hl4, hl5, hk5⟩ := fin (some .ret) W4 lp4
          exact ⟨_, _, hr, .inr ⟨rfl, .ret, hIx _ _ _ _ hi4 ((Below.refl _ _).putObj (by omega) _), hl5, hk5⟩⟩
        | exit id =>
          obtain ⟨lp4, hi4⟩ := hp4
          obtain ⟨hr, hl4, hl5, hk5⟩ := fin (some (.exit id)) W4 lp4
          exact ⟨_, _, hr, .inr ⟨rfl, .exit id, hIx _ _ _ _ hi4 ((Below.refl _ _).putObj (by omega) _), hl5, hk5⟩⟩
        | goto t =>
          obtain ⟨lp4, hi4⟩ := hp4
          obtain ⟨hr, hl4, hl5, hk5⟩ := fin (some (.goto t)) W4 lp4
          exact ⟨_, _, hr, .inr ⟨rfl, .goto t, hIx _ _ _ _ hi4 ((Below.refl _ _).putObj (by omega) _), hl5, hk5⟩⟩
        | _ => exact hp4.elim
      | _ => exact hp.elim
    · rintro e W2 ⟨⟨v, rfl⟩, (⟨hi, hl, hk, hz⟩ | ⟨pre, x, r, hxs, c, hi, hl, hk⟩)⟩
      · refine ⟨none, _, by have := run_endLoop (P := P) hl (by rw [hrec]; simp); rw [hrec] at this; exact this, ?_⟩
        exact hdone _ _ (hI _ _ _ hi ((Below.refl _ _).putObj (by omega) _)) ((World.putObj_heap_other (by omega)).trans hk) (Nat.le_refl _)
      · refine ⟨some c, _, by have := run_endLoop (P := P) hl (by rw [hrec]; simp); rw [hrec] at this; exact this, ?_⟩
        exact hstop _ c pre x r _ hxs (hIx c _ _ _ hi ((Below.refl _ _).putObj (by omega) _)) ((World.putObj_heap_other (by omega)).trans hk) (Nat.le_refl _)
end Go.Proofs.YtljeecocbcffcaaDoor

/- A range over a function whose body may leave the loop, over an iterator that writes into blocks of its own that stood before the loop: one law. -/
namespace Go.Proofs.YtljeecocbcffcaaDoor
open Go.RowKit
set_option linter.unusedVariables false
set_option linter.unusedSimpArgs false

/-- Below B, and outside the iterator's own blocks, nothing has turned. -/
structure BelowE (B : Nat) (own : Nat → Prop) (a w : World) : Prop where
  os : w.os = a.os
  tape : w.tape = a.tape
  output : w.output = a.output
  size : a.heap.size ≤ w.heap.size
  block : ∀ k, k < B → ¬ own k → w.heap[k]? = a.heap[k]?
theorem BelowE.of {B : Nat} {own : Nat → Prop} {a w : World} (h : Below B a w) : BelowE B own a w := ⟨h.os, h.tape, h.output, h.size, fun k hk _ => h.block k hk⟩
theorem BelowE.mono {B C : Nat} {own : Nat → Prop} {a w : World} (h : BelowE B own a w) (hc : C ≤ B) : BelowE C own a w := ⟨h.os, h.tape, h.output, h.size, fun k hk ho => h.block k (by omega) ho⟩
theorem BelowE.set {B : Nat} {own : Nat → Prop} (a : World) {p : Addr} (hp : own p.block) (u : Value) : BelowE B own a (a.setCell p u) :=
  ⟨rfl, rfl, rfl, by simp, fun k _ ho => Below.heap_setCell a p u k (by rintro rfl; exact ho hp)⟩
/-- An invariant that speaks of blocks below B alone, and of no own block of the iterator's. -/
def DeepE {β : Type} (B : Nat) (own : Nat → Prop) (J : β → World → Prop) : Prop :=
  ∀ s W W', J s W → BelowE B own W W' → J s W'
/-- The iterator hands over xs, or a part of it where a round has said 'no more', whatever the body does within its word. -/
def SeqUntilE {α : Type} (F : Fence) (n : Nat) (P : Program) (gf : Nat) (lb : Array Value) (encs : α → Array Value) (X own : Nat → Prop) (xs : List α) (w : World) : Prop :=
  ∀ (l : Nat) (J Jx : List α → World → Prop) (W : World), Below w.heap.size w W → DeepE W.heap.size own J → DeepE W.heap.size own Jx →
    (∀ pre x r W1, J pre W1 → xs = pre ++ x :: r → YieldAt F (n - 1) P l (encs x) W1 fun e W' => (e = .returned (.bool true) ∧ J (pre ++ [x]) W' ∧ KeepC X W1 W') ∨ (e = .returned (.bool false) ∧ Jx (pre ++ [x]) W')) →
    J [] W → CallsIn F n P gf (#[.func (.yield l) #[] #[]] ++ lb) W fun e W' => (∃ v, e = .returned v) ∧ (J xs W' ∨ ∃ pre x r, xs = pre ++ x :: r ∧ Jx (pre ++ [x]) W')

theorem wpIn_range_untilE {P : Program} {F : Fence} {n : Nat} {α : Type} {g : Operand} {ps : Array Tmp} {assign body : Code} {Q : Exit → Act → World → Prop} {a : Act} {w : World}
    (hro : F.round = none) (hdp : F.depth = none) {gf : Nat} {lb : Array Value} (hg : a.eval g = .func (.func gf) #[] lb) (hFg : F.fn gf) (eg : ∀ args w, (callFunc gf args).run P w = .ok (.enter gf args) w)
    {encs : α → Array Value} {X own : Nat → Prop} {xs : List α} {w0 : World} (hown : ∀ k, own k → k < w0.heap.size) (hseq : SeqUntilE F (n - 1) P gf lb encs X own xs w0) (hb0 : Below w0.heap.size w0 w) (hps : ∀ x, (encs x).size = ps.size)
    (I : List α → World → Prop) (Ix : Code → List α → World → Prop) (hI : DeepE w.heap.size own I) (hIx : ∀ c, DeepE w.heap.size own (Ix c)) (h0 : I [] w)
    (hround : ∀ (l : Nat) (pre : List α) (x : α) (r : List α) (W : World), I pre W → xs = pre ++ x :: r → w.heap.size + 2 ≤ W.heap.size →
      assign.wpIn (F.inRound l) (n - 1 - 1) P (Exit.then (fun a₁ W1 => KeepC X W W1 ∧ KeepsOthers W W1 ∧
        ∀ W2, W1.grownBy W2 (some l) → (w.heap.size ≤ l ∧ l < w.heap.size + 2) → body.wpIn (F.inRound l) (n - 1 - 1) P (goesOnX X W2 (I (pre ++ [x])) (fun c => Ix c (pre ++ [x]))) a₁ W2) (fun _ _ _ => False))
        { tmps := (ps.zip (encs x)).foldl (fun t (p, v) => t.setIfInBounds p v) a.tmps, defers := [] } W)
    (hdone : ∀ (D : Nat) (W : World), I xs W → W.heap[D]? = some (.deferred (some [])) → w.heap.size ≤ D → Q .normal { a with defers := { target := .collected D, args := #[] } :: a.defers } W)
    (hstop : ∀ (D : Nat) (c : Code) (pre : List α) (x : α) (r : List α) (W : World), xs = pre ++ x :: r → Ix c (pre ++ [x]) W → W.heap[D]? = some (.deferred (some [])) → w.heap.size ≤ D → c.wpIn F n P Q { a with defers := { target := .collected D, args := #[] } :: a.defers } W) :
    (Code.rangeFunc g ps assign body).wpIn F n P Q a w := by
  refine wpIn_rangeFunc ?_
  intro fn hfn
  rw [hro]
  obtain ⟨rec, hrec⟩ : ∃ rec : LoopState → Option Code → Loop, rec = fun st pe => { state := st, pending := pe, fn, tmps := a.tmps, params := ps, assign, body, defers := w.heap.size } := ⟨_, rfl⟩
  obtain ⟨W1, hW1⟩ : ∃ W1, (w.alloc (.deferred (some []))).alloc (.loop (rec .ready none)) = W1 := ⟨_, rfl⟩
  have hsz : W1.heap.size = w.heap.size + 2 := by rw [← hW1]; simp
  have hL1 : W1.heap[w.heap.size + 1]? = some (.loop (rec .ready none)) := by
    rw [← hW1]; have := World.alloc_heap_new (w.alloc (.deferred (some []))) (.loop (rec .ready none)); rwa [World.size_alloc] at this
  have hK1 : W1.heap[w.heap.size]? = some (.deferred (some [])) := by
    rw [← hW1]; exact (Below.heap_alloc _ _ _ (by simp)).trans (World.alloc_heap_new w _)
  have hI1 : I [] W1 := by
    rw [← hW1]
    exact hI _ _ _ h0 (.of (((Below.refl _ _).alloc (Nat.le_refl _) _).alloc (by simp) _))
  have hb1 : Below w0.heap.size w0 W1 := by
    rw [← hW1]; exact hb0.trans ((((Below.refl _ w).alloc (Nat.le_refl _) _).alloc (by simp) _).mono hb0.size)
  refine ⟨w.heap.size + 1, [{ target := .collected w.heap.size, args := #[] }], W1, { target := .fn (.func gf) lb, args := #[.func (.yield (w.heap.size + 1)) #[] #[]] }, W1, gf,
    #[.func (.yield (w.heap.size + 1)) #[] #[]] ++ lb, W1, ?_, ?_, ?_, ?_, (fun h => by rw [hdp] at h; cases h), ?_⟩
  · rw [← hW1, hrec]; exact run_enterLoop_outer _ _ _ _ _
  · simp only [resolve, hg]
    simp [go_sem]
  · intro f' hf'; simp [Target.leads] at hf'; subst hf'; exact hFg
  · simp [invoke, go_sem, eg]
  · refine (hseq (w.heap.size + 1)
      (fun pre W => I pre W ∧ W.heap[w.heap.size + 1]? = some (.loop (rec .ready none)) ∧ W.heap[w.heap.size]? = some (.deferred (some [])) ∧ w.heap.size + 2 ≤ W.heap.size)
      (fun pre W => ∃ c, Ix c pre W ∧ W.heap[w.heap.size + 1]? = some (.loop (rec .done (some c))) ∧ W.heap[w.heap.size]? = some (.deferred (some [])))
      W1 hb1 ?_ ?_ ?_ ⟨hI1, hL1, hK1, by omega⟩).mono ?_
    · rintro s A B ⟨hs, hl, hk, hz⟩ hgr
      refine ⟨hI s A B hs (hgr.mono (by omega)), ?_, ?_, Nat.le_trans hz hgr.size⟩
      · rw [hgr.block _ (by omega) (fun h => by have := hown _ h; have := hb0.size; omega)]; exact hl
      · rw [hgr.block _ (by omega) (fun h => by have := hown _ h; have := hb0.size; omega)]; exact hk
    · rintro s A B ⟨c, hs, hl, hk⟩ hgr
      refine ⟨c, hIx c s A B hs (hgr.mono (by omega)), ?_, ?_⟩
      · rw [hgr.block _ (by omega) (fun h => by have := hown _ h; have := hb0.size; omega)]; exact hl
      · rw [hgr.block _ (by omega) (fun h => by have := hown _ h; have := hb0.size; omega)]; exact hk
    · rintro pre x r W ⟨hi, hl, hk, hz⟩ hxs
      have hy := run_yield (P := P) (args := encs x) hl (by rw [hrec]; exact hps x)
      rw [hrec] at hy
      refine ⟨fn, _, assign, body, hy, roundIn_of_wpIn hfn (wpIn_mono (hround (w.heap.size + 1) pre x r W hi hxs hz) ?_)⟩
      rintro e a1 W2 hp
      cases e with
      | normal =>
        obtain ⟨hkx, hlp, hbody⟩ := hp
        have hl2 := hlp.same _ _ hl rfl
        have hk2 := hlp.same _ _ hk rfl
        refine ⟨_, run_beginRound hl2 (by rw [hrec]), ?_⟩
        have hl3 : (W2.putObj (w.heap.size + 1) (.loop { rec .ready none with state := .busy })).heap[w.heap.size + 1]? = some (.loop { rec .ready none with state := .busy }) := World.putObj_heap_same (Array.getElem?_eq_some_iff.1 hl2).1
        have hk3 : (W2.putObj (w.heap.size + 1) (.loop { rec .ready none with state := .busy })).heap[w.heap.size]? = some (.deferred (some [])) := (World.putObj_heap_other (by omega)).trans hk2
        have kx3 := hkx.trans (KeepC.put X W2 _ _ (.loop { rec .ready none with state := .busy }) hl2 rfl)
        have fin : ∀ (jump : Option Code) (W3 : World), KeepsOthers (W2.putObj (w.heap.size + 1) (.loop { rec .ready none with state := .busy })) W3 →
            (Instr.endRound (w.heap.size + 1) jump).run P W3 = .ok (.bool jump.isNone) (W3.putObj (w.heap.size + 1) (.loop (rec (if jump.isNone then .ready else .done) jump))) ∧
            W3.heap[w.heap.size + 1]? = some (.loop { rec .ready none with state := .busy }) ∧
            (W3.putObj (w.heap.size + 1) (.loop (rec (if jump.isNone then .ready else .done) jump))).heap[w.heap.size + 1]? = some (.loop (rec (if jump.isNone then .ready else .done) jump)) ∧
            (W3.putObj (w.heap.size + 1) (.loop (rec (if jump.isNone then .ready else .done) jump))).heap[w.heap.size]? = some (.deferred (some [])) := fun jump W3 hk4 => by
          have hl4 := hk4.same _ _ hl3 rfl
          have := run_endRound (P := P) jump hl4
          rw [hrec] at this ⊢
          exact ⟨this, by rw [hrec] at hl4; exact hl4, World.putObj_heap_same (Array.getElem?_eq_some_iff.1 hl4).1, (World.putObj_heap_other (by omega)).trans (hk4.same _ _ hk3 rfl)⟩
        refine wpIn_mono (hbody _ (grownBy_putObj' W2 _ _) ⟨by omega, by omega⟩) ?_
        rintro e a2 W4 hp4
        cases e with
        | normal =>
          obtain ⟨kx4, lp4, hi4⟩ := hp4
          obtain ⟨hr, hl4, hl5, hk5⟩ := fin none W4 lp4
          refine ⟨_, _, hr, .inl ⟨rfl, ⟨hI _ _ _ hi4 (.of ((Below.refl _ _).putObj (by omega) _)), hl5, hk5, ?_⟩, (kx3.trans kx4).trans (KeepC.put X W4 _ _ _ hl4 rfl)⟩⟩
          have h1 := (kx3.trans kx4).size
          simp [World.putObj] at h1 ⊢; omega
        | ret =>
          obtain ⟨lp4, hi4⟩ := hp4
          obtain ⟨hr, hl4, hl5, hk5⟩ := fin (some .ret) W4 lp4
          exact ⟨_, _, hr, .inr ⟨rfl, .ret, hIx _ _ _ _ hi4 (.of ((Below.refl _ _).putObj (by omega) _)), hl5, hk5⟩⟩
        | exit id =>
          obtain ⟨lp4, hi4⟩ := hp4
          obtain ⟨hr, hl4, hl5, hk5⟩ := fin (some (.exit id)) W4 lp4
          exact ⟨_, _, hr, .inr ⟨rfl, .exit id, hIx _ _ _ _ hi4 (.of ((Below.refl _ _).putObj (by omega) _)), hl5, hk5⟩⟩
        | goto t =>
          obtain ⟨lp4, hi4⟩ := hp4
          obtain ⟨hr, hl4, hl5, hk5⟩ := fin (some (.goto t)) W4 lp4
          exact ⟨_, _, hr, .inr ⟨rfl, .goto t, hIx _ _ _ _ hi4 (.of ((Below.refl _ _).putObj (by omega) _)), hl5, hk5⟩⟩
        | _ => exact hp4.elim
      | _ => exact hp.elim
    · rintro e W2 ⟨⟨v, rfl⟩, (⟨hi, hl, hk, hz⟩ | ⟨pre, x, r, hxs, c, hi, hl, hk⟩)⟩
      · refine ⟨none, _, by have := run_endLoop (P := P) hl (by rw [hrec]; simp); rw [hrec] at this; exact this, ?_⟩
        exact hdone _ _ (hI _ _ _ hi (.of ((Below.refl _ _).putObj (by omega) _))) ((World.putObj_heap_other (by omega)).trans hk) (Nat.le_refl _)
      · refine ⟨some c, _, by have := run_endLoop (P := P) hl (by rw [hrec]; simp); rw [hrec] at this; exact this, ?_⟩
        exact hstop _ c pre x r _ hxs (hIx c _ _ _ hi (.of ((Below.refl _ _).putObj (by omega) _))) ((World.putObj_heap_other (by omega)).trans hk) (Nat.le_refl _)
end Go.Proofs.YtljeecocbcffcaaDoor

/- A range over a function whose body may leave the loop and may lay blocks of its own, over an iterator that between two rounds writes into its own blocks alone: one law. -/
namespace Go.Proofs.YtljeecocbcffcaaDoor
open Go.RowKit
set_option linter.unusedVariables false
set_option linter.unusedSimpArgs false

theorem BelowE.imp {B : Nat} {own own' : Nat → Prop} {a w : World} (h : BelowE B own a w) (hi : ∀ k, own k → own' k) : BelowE B own' a w := ⟨h.os, h.tape, h.output, h.size, fun k hk ho => h.block k hk fun h' => ho (hi k h')⟩
theorem BelowE.put {B : Nat} {own : Nat → Prop} (a : World) {b : Nat} (hp : own b) (o : Obj) : BelowE B own a (a.putObj b o) :=
  ⟨rfl, rfl, rfl, by simp [World.putObj], fun k _ ho => World.putObj_heap_other (by rintro rfl; exact ho hp)⟩
/-- An invariant that bears whatever is done outside what is there, and in blocks of own. -/
def DeepN {β : Type} (own : Nat → Prop) (J : β → World → Prop) : Prop :=
  ∀ s W W', J s W → BelowE W.heap.size own W W' → J s W'
def SeqUntilN {α : Type} (F : Fence) (n : Nat) (P : Program) (gf : Nat) (lb : Array Value) (encs : α → Array Value) (X own : Nat → Prop) (xs : List α) (w : World) : Prop :=
  ∀ (l : Nat) (J Jx : List α → World → Prop) (W : World), Below w.heap.size w W → DeepN own J → DeepN own Jx →
    (∀ pre x r W1, J pre W1 → xs = pre ++ x :: r → YieldAt F (n - 1) P l (encs x) W1 fun e W' => (e = .returned (.bool true) ∧ J (pre ++ [x]) W' ∧ KeepC X W1 W') ∨ (e = .returned (.bool false) ∧ Jx (pre ++ [x]) W')) →
    J [] W → CallsIn F n P gf (#[.func (.yield l) #[] #[]] ++ lb) W fun e W' => (∃ v, e = .returned v) ∧ (J xs W' ∨ ∃ pre x r, xs = pre ++ x :: r ∧ Jx (pre ++ [x]) W')

theorem wpIn_range_untilN {P : Program} {F : Fence} {n : Nat} {α : Type} {g : Operand} {ps : Array Tmp} {assign body : Code} {Q : Exit → Act → World → Prop} {a : Act} {w : World}
    (hro : F.round = none) (hdp : F.depth = none) {gf : Nat} {lb : Array Value} (hg : a.eval g = .func (.func gf) #[] lb) (hFg : F.fn gf) (eg : ∀ args w, (callFunc gf args).run P w = .ok (.enter gf args) w)
    {encs : α → Array Value} {X own : Nat → Prop} {xs : List α} {w0 : World} (hown : ∀ k, own k → k < w0.heap.size) (hseq : SeqUntilN F (n - 1) P gf lb encs X own xs w0) (hb0 : Below w0.heap.size w0 w) (hps : ∀ x, (encs x).size = ps.size)
    (I : List α → World → Prop) (Ix : Code → List α → World → Prop) (hI : DeepN (fun k => own k ∨ w.heap.size ≤ k ∧ k < w.heap.size + 2) I) (hIx : ∀ c, DeepN (fun k => own k ∨ w.heap.size ≤ k ∧ k < w.heap.size + 2) (Ix c)) (h0 : I [] w)
    (hround : ∀ (l : Nat) (pre : List α) (x : α) (r : List α) (W : World), I pre W → xs = pre ++ x :: r → w.heap.size + 2 ≤ W.heap.size →
      assign.wpIn (F.inRound l) (n - 1 - 1) P (Exit.then (fun a₁ W1 => KeepC X W W1 ∧ KeepsOthers W W1 ∧
        ∀ W2, W1.grownBy W2 (some l) → (w.heap.size ≤ l ∧ l < w.heap.size + 2) → body.wpIn (F.inRound l) (n - 1 - 1) P (goesOnX X W2 (I (pre ++ [x])) (fun c => Ix c (pre ++ [x]))) a₁ W2) (fun _ _ _ => False))
        { tmps := (ps.zip (encs x)).foldl (fun t (p, v) => t.setIfInBounds p v) a.tmps, defers := [] } W)
    (hdone : ∀ (D : Nat) (W : World), I xs W → W.heap[D]? = some (.deferred (some [])) → w.heap.size ≤ D → Q .normal { a with defers := { target := .collected D, args := #[] } :: a.defers } W)
    (hstop : ∀ (D : Nat) (c : Code) (pre : List α) (x : α) (r : List α) (W : World), xs = pre ++ x :: r → Ix c (pre ++ [x]) W → W.heap[D]? = some (.deferred (some [])) → w.heap.size ≤ D → c.wpIn F n P Q { a with defers := { target := .collected D, args := #[] } :: a.defers } W) :
    (Code.rangeFunc g ps assign body).wpIn F n P Q a w := by
  refine wpIn_rangeFunc ?_
  intro fn hfn
  rw [hro]
  obtain ⟨rec, hrec⟩ : ∃ rec : LoopState → Option Code → Loop, rec = fun st pe => { state := st, pending := pe, fn, tmps := a.tmps, params := ps, assign, body, defers := w.heap.size } := ⟨_, rfl⟩
  obtain ⟨W1, hW1⟩ : ∃ W1, (w.alloc (.deferred (some []))).alloc (.loop (rec .ready none)) = W1 := ⟨_, rfl⟩
  have hsz : W1.heap.size = w.heap.size + 2 := by rw [← hW1]; simp
  have hL1 : W1.heap[w.heap.size + 1]? = some (.loop (rec .ready none)) := by
    rw [← hW1]; have := World.alloc_heap_new (w.alloc (.deferred (some []))) (.loop (rec .ready none)); rwa [World.size_alloc] at this
  have hK1 : W1.heap[w.heap.size]? = some (.deferred (some [])) := by
    rw [← hW1]; exact (Below.heap_alloc _ _ _ (by simp)).trans (World.alloc_heap_new w _)
  have hI1 : I [] W1 := by
    rw [← hW1]
    exact hI _ _ _ h0 (.of (((Below.refl _ _).alloc (Nat.le_refl _) _).alloc (by simp) _))
  have hb1 : Below w0.heap.size w0 W1 := by
    rw [← hW1]; exact hb0.trans ((((Below.refl _ w).alloc (Nat.le_refl _) _).alloc (by simp) _).mono hb0.size)
  refine ⟨w.heap.size + 1, [{ target := .collected w.heap.size, args := #[] }], W1, { target := .fn (.func gf) lb, args := #[.func (.yield (w.heap.size + 1)) #[] #[]] }, W1, gf,
    #[.func (.yield (w.heap.size + 1)) #[] #[]] ++ lb, W1, ?_, ?_, ?_, ?_, (fun h => by rw [hdp] at h; cases h), ?_⟩
  · rw [← hW1, hrec]; exact run_enterLoop_outer _ _ _ _ _
  · simp only [resolve, hg]
    simp [go_sem]
  · intro f' hf'; simp [Target.leads] at hf'; subst hf'; exact hFg
  · simp [invoke, go_sem, eg]
  · refine (hseq (w.heap.size + 1)
      (fun pre W => I pre W ∧ W.heap[w.heap.size + 1]? = some (.loop (rec .ready none)) ∧ W.heap[w.heap.size]? = some (.deferred (some [])) ∧ w.heap.size + 2 ≤ W.heap.size)
      (fun pre W => ∃ c, Ix c pre W ∧ W.heap[w.heap.size + 1]? = some (.loop (rec .done (some c))) ∧ W.heap[w.heap.size]? = some (.deferred (some [])))
      W1 hb1 ?_ ?_ ?_ ⟨hI1, hL1, hK1, by omega⟩).mono ?_
    · rintro s A B ⟨hs, hl, hk, hz⟩ hgr
      refine ⟨hI s A B hs (hgr.imp fun k h => .inl h), ?_, ?_, Nat.le_trans hz hgr.size⟩
      · rw [hgr.block _ (Array.getElem?_eq_some_iff.1 hl).1 (fun h => by have := hown _ h; have := hb0.size; omega)]; exact hl
      · rw [hgr.block _ (Array.getElem?_eq_some_iff.1 hk).1 (fun h => by have := hown _ h; have := hb0.size; omega)]; exact hk
    · rintro s A B ⟨c, hs, hl, hk⟩ hgr
      refine ⟨c, hIx c s A B hs (hgr.imp fun k h => .inl h), ?_, ?_⟩
      · rw [hgr.block _ (Array.getElem?_eq_some_iff.1 hl).1 (fun h => by have := hown _ h; have := hb0.size; omega)]; exact hl
      · rw [hgr.block _ (Array.getElem?_eq_some_iff.1 hk).1 (fun h => by have := hown _ h; have := hb0.size; omega)]; exact hk
    · rintro pre x r W ⟨hi, hl, hk, hz⟩ hxs
      have hy := run_yield (P := P) (args := encs x) hl (by rw [hrec]; exact hps x)
      rw [hrec] at hy
      refine ⟨fn, _, assign, body, hy, roundIn_of_wpIn hfn (wpIn_mono (hround (w.heap.size + 1) pre x r W hi hxs hz) ?_)⟩
      rintro e a1 W2 hp
      cases e with
      | normal =>
        obtain ⟨hkx, hlp, hbody⟩ := hp
        have hl2 := hlp.same _ _ hl rfl
        have hk2 := hlp.same _ _ hk rfl
        refine ⟨_, run_beginRound hl2 (by rw [hrec]), ?_⟩
        have hl3 : (W2.putObj (w.heap.size + 1) (.loop { rec .ready none with state := .busy })).heap[w.heap.size + 1]? = some (.loop { rec .ready none with state := .busy }) := World.putObj_heap_same (Array.getElem?_eq_some_iff.1 hl2).1
        have hk3 : (W2.putObj (w.heap.size + 1) (.loop { rec .ready none with state := .busy })).heap[w.heap.size]? = some (.deferred (some [])) := (World.putObj_heap_other (by omega)).trans hk2
        have kx3 := hkx.trans (KeepC.put X W2 _ _ (.loop { rec .ready none with state := .busy }) hl2 rfl)
        have fin : ∀ (jump : Option Code) (W3 : World), KeepsOthers (W2.putObj (w.heap.size + 1) (.loop { rec .ready none with state := .busy })) W3 →
            (Instr.endRound (w.heap.size + 1) jump).run P W3 = .ok (.bool jump.isNone) (W3.putObj (w.heap.size + 1) (.loop (rec (if jump.isNone then .ready else .done) jump))) ∧
            W3.heap[w.heap.size + 1]? = some (.loop { rec .ready none with state := .busy }) ∧
            (W3.putObj (w.heap.size + 1) (.loop (rec (if jump.isNone then .ready else .done) jump))).heap[w.heap.size + 1]? = some (.loop (rec (if jump.isNone then .ready else .done) jump)) ∧
            (W3.putObj (w.heap.size + 1) (.loop (rec (if jump.isNone then .ready else .done) jump))).heap[w.heap.size]? = some (.deferred (some [])) := fun jump W3 hk4 => by
          have hl4 := hk4.same _ _ hl3 rfl
          have := run_endRound (P := P) jump hl4
          rw [hrec] at this ⊢
          exact ⟨this, by rw [hrec] at hl4; exact hl4, World.putObj_heap_same (Array.getElem?_eq_some_iff.1 hl4).1, (World.putObj_heap_other (by omega)).trans (hk4.same _ _ hk3 rfl)⟩
        refine wpIn_mono (hbody _ (grownBy_putObj' W2 _ _) ⟨by omega, by omega⟩) ?_
        rintro e a2 W4 hp4
        cases e with
        | normal =>
          obtain ⟨kx4, lp4, hi4⟩ := hp4
          obtain ⟨hr, hl4, hl5, hk5⟩ := fin none W4 lp4
          refine ⟨_, _, hr, .inl ⟨rfl, ⟨hI _ _ _ hi4 (.put _ (.inr ⟨by omega, by omega⟩) _), hl5, hk5, ?_⟩, (kx3.trans kx4).trans (KeepC.put X W4 _ _ _ hl4 rfl)⟩⟩
          have h1 := (kx3.trans kx4).size
          simp [World.putObj] at h1 ⊢; omega
        | ret =>
          obtain ⟨lp4, hi4⟩ := hp4
          obtain ⟨hr, hl4, hl5, hk5⟩ := fin (some .ret) W4 lp4
          exact ⟨_, _, hr, .inr ⟨rfl, .ret, hIx _ _ _ _ hi4 (.put _ (.inr ⟨by omega, by omega⟩) _), hl5, hk5⟩⟩
        | exit id =>
          obtain ⟨lp4, hi4⟩ := hp4
          obtain ⟨hr, hl4, hl5, hk5⟩ := fin (some (.exit id)) W4 lp4
          exact ⟨_, _, hr, .inr ⟨rfl, .exit id, hIx _ _ _ _ hi4 (.put _ (.inr ⟨by omega, by omega⟩) _), hl5, hk5⟩⟩
        | goto t =>
          obtain ⟨lp4, hi4⟩ := hp4
          obtain ⟨hr, hl4, hl5, hk5⟩ := fin (some (.goto t)) W4 lp4
          exact ⟨_, _, hr, .inr ⟨rfl, .goto t, hIx _ _ _ _ hi4 (.put _ (.inr ⟨by omega, by omega⟩) _), hl5, hk5⟩⟩
        | _ => exact hp4.elim
      | _ => exact hp.elim
    · rintro e W2 ⟨⟨v, rfl⟩, (⟨hi, hl, hk, hz⟩ | ⟨pre, x, r, hxs, c, hi, hl, hk⟩)⟩
      · refine ⟨none, _, by have := run_endLoop (P := P) hl (by rw [hrec]; simp); rw [hrec] at this; exact this, ?_⟩
        exact hdone _ _ (hI _ _ _ hi (.put _ (.inr ⟨by omega, by omega⟩) _)) ((World.putObj_heap_other (by omega)).trans hk) (Nat.le_refl _)
      · refine ⟨some c, _, by have := run_endLoop (P := P) hl (by rw [hrec]; simp); rw [hrec] at this; exact this, ?_⟩
        exact hstop _ c pre x r _ hxs (hIx c _ _ _ hi (.put _ (.inr ⟨by omega, by omega⟩) _)) ((World.putObj_heap_other (by omega)).trans hk) (Nat.le_refl _)
end Go.Proofs.YtljeecocbcffcaaDoor

/- A drawn region whose operations' values are fixed ahead: each operation is looked at once, whatever order is drawn. -/
namespace Go.Proofs.YtljeecocbcffcaaDoor
open Go.RowKit
set_option linter.unusedVariables false
set_option linter.unusedSimpArgs false

section
variable {P : Program} {ops : Array Oper} {Q : Exit → Act → World → Prop}

/-- What an act is when the operations of L have come up, each with its value. -/
structure Filled (ops : Array Oper) (V : Nat → Value) (a0 : Act) (L : Nat → Bool) (a : Act) : Prop where
  hit : ∀ (i : Nat) (o : Oper) (d : Nat), ops[i]? = some o → o.dst = some d → L i = true → a.tmps[d]? = some (V i)
  miss : ∀ k, (∀ (i : Nat) (o : Oper), ops[i]? = some o → L i = true → o.dst ≠ some k) → a.tmps[k]? = a0.tmps[k]?
  defers : a.defers = a0.defers
  size : a.tmps.size = a0.tmps.size

/-- An operation leaves v, and a world of which R holds. -/
def LeavesV (P : Program) (o : Oper) (v : Value) (a : Act) (w : World) (R : World → Prop) : Prop :=
  ∀ (K : Act → World → Prop) (Q : Exit → Act → World → Prop), (∀ w', R w' → K (a.put o.dst v) w') → o.wp P a w K Q

/-- The frame's shape: plain operations, edges to the front, slots apart and in the frame. -/
structure Apart (ops : Array Oper) (n : Nat) : Prop where
  plain : ∀ (i : Nat) (o : Oper), ops[i]? = some o → o.guard = none
  back : ∀ (i : Nat) (o : Oper), ops[i]? = some o → ∀ e ∈ o.after, e.on < i
  inside : ∀ (i : Nat) (o : Oper) (d : Nat), ops[i]? = some o → o.dst = some d → d < n
  one : ∀ (i j : Nat) (o o' : Oper) (d : Nat), ops[i]? = some o → ops[j]? = some o' → o.dst = some d → o'.dst = some d → i = j

def upd (L : Nat → Bool) (i : Nat) : Nat → Bool := fun j => if j = i then true else L j
theorem put_get (a : Act) (d : Nat) (v : Value) (k : Nat) : (a.put (some d) v).tmps[k]? = if k = d ∧ d < a.tmps.size then some v else a.tmps[k]? := by
  simp only [Act.put, Array.getElem?_setIfInBounds]
  by_cases h : d = k
  · subst h
    by_cases h2 : d < a.tmps.size
    · simp [h2]
    · simp [h2]
  · rw [if_neg h, if_neg (fun h2 => h h2.1.symm)]
theorem Filled.put {V : Nat → Value} {a0 a : Act} {L : Nat → Bool} (hA : Apart ops a0.tmps.size) (h : Filled ops V a0 L a) {i : Nat} {o : Oper} (hi : ops[i]? = some o) : Filled ops V a0 (upd L i) (a.put o.dst (V i)) := by
  cases hd : o.dst with
  | none =>
    refine ⟨fun j o' d hj hd' hL => ?_, fun k hk => h.miss k fun j o' hj hL => hk j o' hj ?_, h.defers, h.size⟩
    · by_cases hji : j = i
      · subst hji; rw [hi] at hj; cases hj; rw [hd] at hd'; cases hd'
      · exact h.hit j o' d hj hd' (by simpa [upd, hji] using hL)
    · simp only [upd]; split <;> first | rfl | exact hL
  | some d =>
    have hds := hA.inside i o d hi hd
    refine ⟨fun j o' d' hj hd' hL => ?_, fun k hk => ?_, h.defers, by simp [Act.put, h.size]⟩
    · rw [put_get]
      by_cases hji : j = i
      · subst hji; rw [hi] at hj; cases hj; rw [hd] at hd'; cases hd'
        rw [if_pos ⟨rfl, by rw [h.size]; exact hds⟩]
      · rw [if_neg (fun hc => hji (hA.one j i o' o d' hj hi hd' (by rw [hd, hc.1])))]
        exact h.hit j o' d' hj hd' (by simpa [upd, hji] using hL)
    · rw [put_get, if_neg (fun hc => hk i o hi (by simp [upd]) (by rw [hd, hc.1]))]
      exact h.miss k fun j o' hj hL => hk j o' hj (by simp only [upd]; split <;> first | rfl | exact hL)
theorem Filled.same {V : Nat → Value} {a0 a b : Act} {L : Nat → Bool} (h : Filled ops V a0 L a) (h' : Filled ops V a0 L b) : a = b := by
  obtain ⟨t, d⟩ := a
  obtain ⟨t', d'⟩ := b
  have e : t = t' := by
    apply Array.ext_getElem?
    intro k
    by_cases hk : ∃ (i : Nat) (o : Oper), ops[i]? = some o ∧ L i = true ∧ o.dst = some k
    · obtain ⟨i, o, hi, hL, hd⟩ := hk
      exact (h.hit i o k hi hd hL).trans (h'.hit i o k hi hd hL).symm
    · have hn : ∀ (i : Nat) (o : Oper), ops[i]? = some o → L i = true → o.dst ≠ some k := fun i o hi hL hd => hk ⟨i, o, hi, hL, hd⟩
      exact (h.miss k hn).trans (h'.miss k hn).symm
  subst e
  have e2 : d = d' := h.defers.trans h'.defers.symm
  rw [e2]
/-- All values in their slots. -/
def putAll (ops : Array Oper) (V : Nat → Value) : Nat → Act → Act
  | 0, a => a
  | n + 1, a => (putAll ops V n a).put ((ops[n]?).bind (·.dst)) (V n)
theorem putAll_filled {V : Nat → Value} {a0 : Act} (hA : Apart ops a0.tmps.size) : ∀ n, n ≤ ops.size → Filled ops V a0 (fun i => decide (i < n)) (putAll ops V n a0)
  | 0, _ => ⟨fun i o d _ _ h => by simp at h, fun _ _ => rfl, rfl, rfl⟩
  | n + 1, hn => by
    have h := putAll_filled (V := V) hA n (by omega)
    have hi : ops[n]? = some ops[n] := Array.getElem?_eq_getElem (by omega)
    have h2 := h.put hA hi
    have e : upd (fun i => decide (i < n)) n = fun i => decide (i < n + 1) := by
      funext j
      simp only [upd]
      by_cases hj : j = n
      · subst hj; simp
      · rw [if_neg hj]; simp; omega
    rw [e] at h2
    simp only [putAll, hi, Option.bind_some]
    exact h2

def listedF (l : Array Bool) : Nat → Bool := fun i => l.getD i true
theorem listedF_set {l : Array Bool} {i : Nat} (h : i < l.size) : listedF (l.setIfInBounds i true) = upd (listedF l) i := by
  funext j
  simp only [listedF, upd, Array.getD_eq_getD_getElem?, Array.getElem?_setIfInBounds]
  by_cases hj : i = j
  · subst hj; simp [h]
  · rw [if_neg hj, if_neg (Ne.symm hj)]
theorem ready_mem {md : Region.Mode} {l : Array Bool} {i : Nat} : i ∈ Region.ready md ops l ↔ ∃ o, ops[i]? = some o ∧ l.getD i true = false ∧ ∀ e ∈ o.after, Region.binds md e = true → l.getD e.on false = true := by
  simp only [Region.ready, List.mem_filter, List.mem_range, Bool.and_eq_true, Bool.not_eq_true']
  constructor
  · rintro ⟨h, h1, h2⟩
    refine ⟨ops[i], Array.getElem?_eq_getElem h, h1, ?_⟩
    rw [Array.getElem?_eq_getElem h] at h2
    simp only [Option.map_some, Option.getD_some, Array.all_eq_true_iff_forall_mem, Bool.or_eq_true, Bool.not_eq_true'] at h2
    intro e he hb
    rcases h2 e he with h3 | h3
    · rw [hb] at h3; cases h3
    · exact h3
  · rintro ⟨o, ho, h1, h2⟩
    refine ⟨(Array.getElem?_eq_some_iff.1 ho).1, h1, ?_⟩
    rw [ho]
    simp only [Option.map_some, Option.getD_some, Array.all_eq_true_iff_forall_mem, Bool.or_eq_true, Bool.not_eq_true']
    intro e he
    cases hb : Region.binds md e
    · exact .inl rfl
    · exact .inr (h2 e he hb)
theorem ready_none {md : Region.Mode} {l : Array Bool} {n : Nat} (hA : Apart ops n) (hl : l.size = ops.size) (h : Region.ready md ops l = []) : ∀ i, i < ops.size → l.getD i true = true := by
  intro i
  induction i using Nat.strongRecOn with
  | ind i ih =>
    intro hi
    cases hc : l.getD i true with
    | true => rfl
    | false =>
      exfalso
      have hm : i ∈ Region.ready md ops l := by
        refine ready_mem.2 ⟨ops[i], Array.getElem?_eq_getElem hi, hc, fun e he hb => ?_⟩
        have hlt := hA.back i ops[i] (Array.getElem?_eq_getElem hi) e he
        have := ih e.on hlt (by omega)
        simp only [Array.getD_eq_getD_getElem?] at this ⊢
        have hs : e.on < l.size := by omega
        rw [Array.getElem?_eq_getElem hs] at this ⊢
        exact this
      rw [h] at hm
      cases hm
/-- **Any order of a region whose values are fixed ahead.** -/
theorem wpAny_fixed {md : Region.Mode} {V : Nat → Value} {S : (Nat → Bool) → World → Prop} {a0 : Act} (hA : Apart ops a0.tmps.size)
    (hop : ∀ (i : Nat) (o : Oper) (L : Nat → Bool) (a : Act) (w : World), ops[i]? = some o → L i = false → (∀ e ∈ o.after, Region.binds md e = true → L e.on = true) → Filled ops V a0 L a → S L w → LeavesV P o (V i) a w (S (upd L i)))
    (hend : ∀ (L : Nat → Bool) (w : World), (∀ i, i < ops.size → L i = true) → S L w → Q .normal (putAll ops V ops.size a0) w) :
    ∀ (fuel : Nat) (l : Array Bool) (a : Act) (w : World), l.size = ops.size → (l.toList.count false ≤ fuel) → Filled ops V a0 (listedF l) a → S (listedF l) w → wpAny P md ops Q fuel l a w := by
  have hdone : ∀ (l : Array Bool) (a : Act) (w : World), l.size = ops.size → Filled ops V a0 (listedF l) a → S (listedF l) w → Region.ready md ops l = [] → Q .normal a w := by
    intro l a w hl hF hS hr
    have hall := ready_none hA hl hr
    have hF2 := putAll_filled (V := V) hA ops.size (Nat.le_refl _)
    have hF3 : Filled ops V a0 (listedF l) (putAll ops V ops.size a0) := by
      refine ⟨fun i o d hi hd _ => hF2.hit i o d hi hd (by simpa using (Array.getElem?_eq_some_iff.1 hi).1), fun k hk => hF2.miss k fun i o hi _ => hk i o hi (hall i (Array.getElem?_eq_some_iff.1 hi).1), hF2.defers, hF2.size⟩
    rw [hF.same hF3]
    exact hend (listedF l) w hall hS
  intro fuel
  induction fuel with
  | zero =>
    intro l a w hl hc hF hS
    have hr : Region.ready md ops l = [] := by
      apply List.eq_nil_iff_forall_not_mem.2
      intro i hi
      obtain ⟨o, ho, h1, -⟩ := ready_mem.1 hi
      have hi' : i < l.size := by rw [hl]; exact (Array.getElem?_eq_some_iff.1 ho).1
      have hm : false ∈ l.toList := by
        have : l[i] = false := by simpa [Array.getD_eq_getD_getElem?, Array.getElem?_eq_getElem hi'] using h1
        rw [← this]; exact Array.getElem_mem_toList hi'
      have := List.count_pos_iff.2 hm
      omega
    exact ⟨hr, hdone l a w hl hF hS hr⟩
  | succ fuel ih =>
    intro l a w hl hc hF hS
    refine ⟨hdone l a w hl hF hS, fun i hi => ?_⟩
    obtain ⟨o, ho, h1, h2⟩ := ready_mem.1 hi
    have hi' : i < l.size := by rw [hl]; exact (Array.getElem?_eq_some_iff.1 ho).1
    have hL2 : ∀ e ∈ o.after, Region.binds md e = true → listedF l e.on = true := by
      intro e he hb
      have h3 := h2 e he hb
      have hs : e.on < l.size := by have := hA.back i o ho e he; omega
      simp only [listedF, Array.getD_eq_getD_getElem?] at h3 ⊢
      rw [Array.getElem?_eq_getElem hs] at h3 ⊢
      exact h3
    unfold wpOp
    simp only [ho]
    have hw : Region.wanted o (yielded ops a.tmps) = true := by simp [Region.wanted, hA.plain i o ho]
    rw [if_pos hw]
    refine .inl (hop i o (listedF l) a w ho h1 hL2 hF hS _ _ fun w' hS' => ?_)
    have e := listedF_set hi'
    refine ih _ _ _ (by simpa using hl) ?_ (by rw [e]; exact hF.put hA ho) (by rw [e]; exact hS')
    have hf : l[i] = false := by simpa [Array.getD_eq_getD_getElem?, Array.getElem?_eq_getElem hi'] using h1
    have : (l.setIfInBounds i true).toList.count false + 1 = l.toList.count false := by
      have h0 : l.toList[i]'(by simpa using hi') = false := by simpa using hf
      have hp : 0 < l.toList.count false := List.count_pos_iff.2 (by rw [← h0]; exact List.getElem_mem _)
      have h5 := List.count_set (l := l.toList) (a := true) (b := false) (i := i) (by simpa using hi')
      rw [h0] at h5
      rw [Array.toList_setIfInBounds, h5]
      have e1 : (false == false) = true := rfl
      have e2 : (true == false) = false := rfl
      rw [e1, e2]
      simp only [if_true, Bool.false_eq_true, if_false]
      omega
    omega
end
end Go.Proofs.YtljeecocbcffcaaDoor

/- A drawn region of quiet operations, one alloc and one last store: the text's order walked serves every order. -/
namespace Go.Proofs.YtljeecocbcffcaaDoor
open Go.RowKit
set_option linter.unusedVariables false
set_option linter.unusedSimpArgs false

section
variable {P : Program} {Q : Exit → Act → World → Prop}

def depB (l : List Oper) (o : Oper) (t : Nat) : Bool :=
  (List.range l.length).all fun j => match l[j]? with
    | some o' => o'.dst != some t || o.after.any (fun e => e.on == j && Region.binds .any e)
    | none => true
def depsB (l : List Oper) (o : Oper) : Bool := o.op.operands.all fun x => match x with
  | .tmp t => depB l o t
  | _ => true
def selB (o : Oper) : Bool := match o.op with
  | .select _ _ => false
  | _ => true
def apartAt (l : List Oper) (n : Nat) (i : Nat) (o : Oper) : Bool :=
  o.guard.isNone && o.after.all (fun e => decide (e.on < i)) && (match o.dst with
    | some d => decide (d < n) && (List.range l.length).all (fun j => decide (j = i) || match l[j]? with
        | some o' => o'.dst != some d
        | none => true)
    | none => true) && depsB l o && selB o
def apartB (l : List Oper) (n : Nat) : Bool :=
  (List.range l.length).all fun i => match l[i]? with
    | some o => apartAt l n i o
    | none => true
theorem apartB_at {l : List Oper} {n i : Nat} {o : Oper} (h : apartB l n = true) (hi : l[i]? = some o) : apartAt l n i o = true := by
  have h1 := List.all_eq_true.1 h i (List.mem_range.2 (List.getElem?_eq_some_iff.1 hi).1)
  rw [hi] at h1
  exact h1
theorem apartB_spec {l : List Oper} {n : Nat} (h : apartB l n = true) : Apart l.toArray n := by
  refine ⟨fun i o hi => ?_, fun i o hi e he => ?_, fun i o d hi hd => ?_, fun i j o o' d hi hj hd hd' => ?_⟩
  all_goals
    rw [List.getElem?_toArray] at hi
    have h1 := apartB_at h hi
    simp only [apartAt, Bool.and_eq_true] at h1
    obtain ⟨⟨⟨⟨h1, h2⟩, h3⟩, h4⟩, h5⟩ := h1
  · simpa using h1
  · exact of_decide_eq_true (Array.all_eq_true_iff_forall_mem.1 h2 e he)
  · rw [hd] at h3
    simp only [Bool.and_eq_true] at h3
    exact of_decide_eq_true h3.1
  · rw [hd] at h3
    simp only [Bool.and_eq_true] at h3
    rw [List.getElem?_toArray] at hj
    have h6 := List.all_eq_true.1 h3.2 j (List.mem_range.2 (List.getElem?_eq_some_iff.1 hj).1)
    rw [hj] at h6
    simp only [hd', Bool.or_eq_true, decide_eq_true_eq, bne_self_eq_false, Bool.false_eq_true, or_false] at h6
    exact h6.symm
theorem apartB_sel {l : List Oper} {n i : Nat} {o : Oper} (h : apartB l n = true) (hi : l[i]? = some o) : ∀ cs b, o.op ≠ .select cs b := by
  have h1 := apartB_at h hi
  simp only [apartAt, Bool.and_eq_true] at h1
  intro cs b e
  have h2 := h1.2
  rw [selB, e] at h2
  cases h2
theorem any_mem {α : Type} {f : α → Bool} {ar : Array α} (h : ar.any f = true) : ∃ x, x ∈ ar ∧ f x = true := by
  rw [← Array.any_toList] at h
  obtain ⟨x, hx, hp⟩ := List.any_eq_true.1 h
  exact ⟨x, by simpa using hx, hp⟩
theorem agree {l : List Oper} {n i : Nat} {o : Oper} (h : apartB l n = true) (hi : l[i]? = some o) {V : Nat → Value} {a0 a b : Act} {L L' : Nat → Bool} (hF : Filled l.toArray V a0 L a) (hF' : Filled l.toArray V a0 L' b)
    (hL : ∀ e ∈ o.after, Region.binds .any e = true → L e.on = true) (hL' : ∀ e ∈ o.after, Region.binds .any e = true → L' e.on = true) : execOp a.eval o = execOp b.eval o := by
  refine execOp_congr o (apartB_sel h hi) fun x hx => ?_
  cases x with
  | tmp t =>
    have h1 := apartB_at h hi
    simp only [apartAt, Bool.and_eq_true] at h1
    have h2 : depB l o t = true := Array.all_eq_true_iff_forall_mem.1 h1.1.2 _ hx
    have e : a.tmps[t]? = b.tmps[t]? := by
      by_cases hk : ∃ (j : Nat) (o' : Oper), l[j]? = some o' ∧ o'.dst = some t
      · obtain ⟨j, o', hj, hd⟩ := hk
        have h3 := List.all_eq_true.1 h2 j (List.mem_range.2 (List.getElem?_eq_some_iff.1 hj).1)
        rw [hj] at h3
        simp only [hd, bne_self_eq_false, Bool.false_or] at h3
        obtain ⟨e, he, h4⟩ := any_mem h3
        simp only [Bool.and_eq_true, beq_iff_eq] at h4
        obtain ⟨rfl, hb⟩ := h4
        exact (hF.hit e.on o' t (by simpa using hj) hd (hL e he hb)).trans (hF'.hit e.on o' t (by simpa using hj) hd (hL' e he hb)).symm
      · have hn : ∀ (L : Nat → Bool) (j : Nat) (o' : Oper), l.toArray[j]? = some o' → L j = true → o'.dst ≠ some t := fun _ j o' hj _ hd => hk ⟨j, o', by simpa using hj, hd⟩
        exact (hF.miss t (hn L)).trans (hF'.miss t (hn L')).symm
    simp only [Act.eval, Array.getD_eq_getD_getElem?, e]
  | _ => rfl
theorem quiet_miss {ops : Array Oper} {C : World → Prop} {A : Act} : ∀ (suf : List Oper) (b : Act), (∀ o ∈ suf, o.guard = none) → wpQuiet P ops C (fun a' => a' = A) suf b → ∀ d, (∀ o ∈ suf, o.dst ≠ some d) → A.tmps[d]? = b.tmps[d]?
  | [], b, _, h, d, _ => by
    have h : b = A := h
    rw [h]
  | o :: suf, b, hg, h, d, hd => by
    simp only [wpQuiet] at h
    have hw : Region.wanted o (yielded ops b.tmps) = true := by simp [Region.wanted, hg o (by simp)]
    rw [if_pos hw] at h
    obtain ⟨v, -, h2⟩ := h
    have h3 := quiet_miss suf _ (fun o ho => hg o (by simp [ho])) h2 d (fun o ho => hd o (by simp [ho]))
    rw [h3]
    have h4 := hd o (by simp)
    cases hdo : o.dst with
    | none => rfl
    | some e =>
      rw [put_get, if_neg (fun hc => h4 (by rw [hdo, hc.1]))]
/-- What the end of the walk holds in an operation's slot. -/
def endV (l : List Oper) (A : Act) (n : Nat) (p : Value) (i : Nat) : Value :=
  if i < n then (((l[i]?).bind (·.dst)).bind (A.tmps[·]?)).getD undef else if i = n then p else undef
theorem quiet_steps {l : List Oper} {C : World → Prop} {a A : Act} {n : Nat} {p : Value} (hB : apartB l a.tmps.size = true) (hn : n ≤ l.length) (hsome : ∀ o ∈ l.take n, ∃ d, o.dst = some d)
    (h : wpQuiet P l.toArray C (fun a' => a' = A) (l.take n) a) : ∀ m, m ≤ n → wpQuiet P l.toArray C (fun a' => a' = A) ((l.take n).drop m) (putAll l.toArray (endV l A n p) m a) ∧
      ∀ i o, i < m → l[i]? = some o → ∀ w, C w → o.quietAt P (putAll l.toArray (endV l A n p) i a) C w (endV l A n p i)
  | 0, _ => ⟨h, fun i o hi => absurd hi (Nat.not_lt_zero _)⟩
  | m + 1, hm => by
    obtain ⟨h1, h2⟩ := quiet_steps hB hn hsome h m (by omega)
    have hml : m < l.length := by omega
    have hg : l[m]? = some l[m] := List.getElem?_eq_getElem hml
    have hA := apartB_spec hB
    have hd : (l.take n).drop m = l[m] :: (l.take n).drop (m + 1) := by
      rw [List.drop_eq_getElem_cons (by simp; omega)]
      simp
    rw [hd] at h1
    simp only [wpQuiet] at h1
    have hw : Region.wanted l[m] (yielded l.toArray (putAll l.toArray (endV l A n p) m a).tmps) = true := by simp [Region.wanted, hA.plain m l[m] (by rw [List.getElem?_toArray]; exact hg)]
    rw [if_pos hw] at h1
    obtain ⟨v, h3, h4⟩ := h1
    obtain ⟨d, hdm⟩ := hsome l[m] (List.mem_take_iff_getElem.2 ⟨m, by omega, rfl⟩)
    have hsz := (putAll_filled (V := endV l A n p) hA m (by simpa using Nat.le_of_lt hml)).size
    have hv : endV l A n p m = v := by
      have h5 := quiet_miss _ _ (fun o ho => ?_) h4 d (fun o ho hod => ?_)
      · rw [hdm, put_get, if_pos ⟨rfl, by rw [hsz]; exact hA.inside m l[m] d (by rw [List.getElem?_toArray]; exact hg) hdm⟩] at h5
        simp only [endV, hg, Option.bind_some, hdm, h5, Option.getD_some]
        rw [if_pos (by omega)]
      · obtain ⟨j, hj, rfl⟩ := List.getElem_of_mem ho
        simp only [List.getElem_drop, List.getElem_take]
        exact hA.plain (m + 1 + j) _ (by rw [List.getElem?_toArray]; exact List.getElem?_eq_getElem _)
      · obtain ⟨j, hj, rfl⟩ := List.getElem_of_mem ho
        simp only [List.getElem_drop, List.getElem_take] at hod
        have := hA.one (m + 1 + j) m _ _ d (by rw [List.getElem?_toArray]; exact List.getElem?_eq_getElem _) (by rw [List.getElem?_toArray]; exact hg) hod hdm
        omega
    refine ⟨?_, fun i o hi ho w hC => ?_⟩
    · simp only [putAll, List.getElem?_toArray, hg, Option.bind_some]
      rw [hv]
      exact h4
    · by_cases him : i = m
      · subst him
        rw [hg] at ho
        cases ho
        rw [hv]
        exact h3 w hC
      · exact h2 i o (by omega) ho w hC
/-- **A drawn region of quiet operations, one alloc and one store behind it.** -/
theorem wp_region_quiet_new {id : Nat} {l : List Oper} {a A : Act} {w w2 w3 : World} (n : Nat) {oA oS : Oper} {dA : Nat} {p : Value} (hm : P.follows .mixedOrders = true) {mm : Nat} (hsz : a.tmps.size = mm) (hB : apartB l mm = true)
    (hlen : l.length = n + 2) (hsome : (l.take n).all (fun o => o.dst.isSome) = true) (hoA : l[n]? = some oA) (hoS : l[n + 1]? = some oS) (hdA : oA.dst = some dA) (hdS : oS.dst = none)
    (hAS : oS.after.any (fun e => e.on == n && Region.binds .any e) = true)
    (hrA : ∀ a : Act, (execOp a.eval oA).run P w.drew = .ok (.value p) w2)
    (hrS : (execOp (A.put (some dA) p).eval oS).run P w2 = .ok .skip w3)
    (h1 : wpQuiet P l.toArray (fun w' => w' = w.drew) (fun a' => a' = A) (l.take n) a)
    (h2 : wpQuiet P l.toArray (fun w' => w' = w2) (fun a' => a' = A) (l.take n) a)
    (h3 : wpQuiet P l.toArray (fun w' => w' = w3) (fun a' => a' = A) (l.take n) a)
    (hend : Q .normal (A.put (some dA) p) w3) : (Code.region id l.toArray true).wp P Q a w := by
  subst hsz
  have hA := apartB_spec hB
  have hsm : ∀ o ∈ l.take n, ∃ d, o.dst = some d := fun o ho => Option.isSome_iff_exists.1 (List.all_eq_true.1 hsome o ho)
  obtain ⟨V, hV⟩ : ∃ V, endV l A n p = V := ⟨_, rfl⟩
  have q1 := quiet_steps (p := p) hB (by omega) hsm h1 n (Nat.le_refl _)
  have q2 := (quiet_steps (p := p) hB (by omega) hsm h2 n (Nat.le_refl _)).2
  have q3 := (quiet_steps (p := p) hB (by omega) hsm h3 n (Nat.le_refl _)).2
  have hAe : putAll l.toArray (endV l A n p) n a = A := by
    have h := q1.1
    rw [List.drop_of_length_le (by rw [List.length_take]; omega)] at h
    exact h
  have q1 := q1.2
  have hVn : endV l A n p n = p := by simp [endV]
  have hVs : endV l A n p (n + 1) = undef := by
    simp only [endV]
    rw [if_neg (by omega), if_neg (by omega)]
  rw [hV] at q1 q2 q3 hAe hVn hVs
  clear hV h1 h2 h3
  have hAn : putAll l.toArray V (n + 1) a = A.put (some dA) p := by
    simp only [putAll, hAe, List.getElem?_toArray, hoA, Option.bind_some, hdA, hVn]
  have hAl : putAll l.toArray V (n + 2) a = A.put (some dA) p := by
    rw [putAll, hAn]
    simp only [List.getElem?_toArray, hoS, Option.bind_some, hdS]
    rfl
  have hfill : ∀ i, i ≤ l.length → Filled l.toArray V a (fun j => decide (j < i)) (putAll l.toArray V i a) := fun i hi => putAll_filled hA i (by simpa using hi)
  have hback : ∀ (i : Nat) (o : Oper), l[i]? = some o → ∀ e ∈ o.after, Region.binds .any e = true → (fun j => decide (j < i)) e.on = true := fun i o hi e he _ => by
    have := hA.back i o (by simpa using hi) e he
    simpa using this
  refine wp_region_any hm ?_
  refine wpAny_fixed (V := V) (S := fun L wx => (L n = false ∧ L (n + 1) = false ∧ wx = w.drew) ∨ (L n = true ∧ L (n + 1) = false ∧ wx = w2) ∨ (L n = true ∧ L (n + 1) = true ∧ wx = w3)) (a0 := a) hA ?_ ?_ _ _ _ _ (by simp) (by simp) ?_ ?_
  · intro i o L b wx hi hL he hF hS K Q' hK
    rw [List.getElem?_toArray] at hi
    have hil := (List.getElem?_eq_some_iff.1 hi).1
    have hag := agree hB hi hF (hfill i (by omega)) he (hback i o hi)
    unfold Oper.wp
    rw [hag]
    by_cases hin : i < n
    · have hq : o.quietAt P (putAll l.toArray V i a) (fun w' => w' = wx) wx (V i) := by
        rcases hS with ⟨-, -, rfl⟩ | ⟨-, -, rfl⟩ | ⟨-, -, rfl⟩
        · exact q1 i o hin hi _ rfl
        · exact q2 i o hin hi _ rfl
        · exact q3 i o hin hi _ rfl
      have hS' : ∀ w', w' = wx → K (b.put o.dst (V i)) w' := by
        rintro w' rfl
        refine hK w' ?_
        have e1 : upd L i n = L n := by simp only [upd]; rw [if_neg (by omega)]
        have e2 : upd L i (n + 1) = L (n + 1) := by simp only [upd]; rw [if_neg (by omega)]
        simp only [e1, e2]
        exact hS
      unfold Oper.quietAt at hq
      generalize (execOp (putAll l.toArray V i a).eval o).run P wx = r at hq
      cases r with
      | ok x w' =>
        cases x <;> simp only [Oper.quietUpon] at hq <;> simp only [Oper.upon]
        case value u => obtain ⟨rfl, rfl⟩ := hq; exact hS' _ rfl
        case skip => obtain ⟨rfl, h⟩ := hq; rw [← h]; exact hS' _ rfl
        case enter f args =>
          obtain ⟨rfl, hc⟩ := hq
          refine Calls.mono hc fun e w'' h => ?_
          obtain ⟨rfl, rfl⟩ := h
          exact hS' _ rfl
      | halt x w' => simp only [Oper.quietUpon] at hq
    · by_cases hi2 : i = n
      · subst hi2
        rw [hoA] at hi
        cases hi
        rcases hS with ⟨s1, s2, rfl⟩ | ⟨s1, -, -⟩ | ⟨s1, -, -⟩
        · rw [hrA]
          simp only [Oper.upon]
          rw [← hVn]
          exact hK _ (.inr (.inl ⟨by simp [upd], by simp only [upd]; rw [if_neg (by omega)]; exact s2, rfl⟩))
        · rw [hL] at s1; cases s1
        · rw [hL] at s1; cases s1
      · obtain rfl : i = n + 1 := by omega
        rw [hoS] at hi
        cases hi
        obtain ⟨e, hem, heb⟩ := any_mem hAS
        simp only [Bool.and_eq_true, beq_iff_eq] at heb
        have hLn := he e hem heb.2
        rw [heb.1] at hLn
        rcases hS with ⟨s1, -, -⟩ | ⟨s1, s2, rfl⟩ | ⟨-, s2, -⟩
        · rw [hLn] at s1; cases s1
        · rw [hAn, hrS]
          simp only [Oper.upon]
          rw [← hVs]
          exact hK _ (.inr (.inr ⟨by simp only [upd]; rw [if_neg (by omega)]; exact s1, by simp [upd], rfl⟩))
        · rw [hL] at s2; cases s2
  · intro L wx hall hS
    have e0 : l.toArray.size = n + 2 := by simpa using hlen
    rw [e0, hAl]
    have h1 := hall n (by omega)
    have h2 := hall (n + 1) (by omega)
    rcases hS with ⟨s1, -, -⟩ | ⟨-, s2, -⟩ | ⟨-, -, rfl⟩
    · rw [h1] at s1; cases s1
    · rw [h2] at s2; cases s2
    · exact hend
  · refine ⟨fun i o d hi _ hL => ?_, fun _ _ => rfl, rfl, rfl⟩
    have hi' := (Array.getElem?_eq_some_iff.1 hi).1
    simp only [List.size_toArray] at hi'
    simp [listedF, Array.getD_eq_getD_getElem?, hi'] at hL
  · refine .inl ⟨?_, ?_, rfl⟩
    · simp [listedF, Array.getD_eq_getD_getElem?, hlen]
    · simp [listedF, Array.getD_eq_getD_getElem?, hlen]
end
end Go.Proofs.YtljeecocbcffcaaDoor

/- A list of operations that call nothing, run by reckoning: for the long literals. -/
namespace Go.Proofs.YtljeecocbcffcaaDoor
open Go.RowKit
set_option linter.unusedVariables false
set_option linter.unusedSimpArgs false

def runOps (P : Program) : List Oper → Act → World → Option (Act × World)
  | [], a, w => some (a, w)
  | o :: r, a, w =>
    match o.guard with
    | some _ => none
    | none =>
      match (execOp a.eval o).run P w with
      | .ok (.value v) w' => runOps P r (a.put o.dst v) w'
      | .ok .skip w' => runOps P r (a.put o.dst undef) w'
      | _ => none
theorem wpList_runOps {P : Program} {ops : Array Oper} {Q : Exit → Act → World → Prop} : ∀ (l : List Oper) {a a' : Act} {w w' : World}, runOps P l a w = some (a', w') → Q .normal a' w' → wpList P ops Q l a w
  | [], a, a', w, w', h, hq => by
    simp only [runOps, Option.some.injEq, Prod.mk.injEq] at h
    obtain ⟨rfl, rfl⟩ := h
    exact hq
  | o :: r, a, a', w, w', h, hq => by
    rw [runOps] at h
    cases hg : o.guard with
    | some g => rw [hg] at h; cases h
    | none =>
      rw [hg] at h
      refine wpList_plain hg fun K hK => ?_
      unfold Oper.wp
      cases hr : (execOp a.eval o).run P w with
      | ok x w1 =>
        rw [hr] at h
        cases x with
        | value v => exact hK _ _ (wpList_runOps r h hq)
        | skip => exact hK _ _ (wpList_runOps r h hq)
        | _ => cases h
      | halt x w1 => rw [hr] at h; cases h
theorem wp_region_runOps {P : Program} {id : Nat} {Q : Exit → Act → World → Prop} {a a' : Act} {w w' : World} {l : List Oper} (h : runOps P l a w = some (a', w')) (hq : Q .normal a' w') : (Code.region id l.toArray false).wp P Q a w := by
  refine wp_region ?_
  have e : List.range l.toArray.size = List.range' 0 l.length := by rw [List.range_eq_range']; simp
  rw [e, wpOps_eq_wpList (ops := l.toArray) l 0 (fun j => by simp)]
  exact wpList_runOps l h hq
/-- .. of which one slot is asked. -/
theorem wp_region_slot {P : Program} {id s : Nat} {v : Value} {Q : Exit → Act → World → Prop} {a : Act} {w w' : World} {l : List Oper}
    (h : (runOps P l a w).map (fun x => (x.1.tmps.getD s undef, x.1.defers, x.2)) = some (v, [], w')) (hq : ∀ t : Array Value, t.getD s undef = v → Q .normal { tmps := t, defers := [] } w') : (Code.region id l.toArray false).wp P Q a w := by
  obtain ⟨⟨⟨t, d⟩, w1⟩, h1, h2⟩ := Option.map_eq_some_iff.1 h
  simp only [Prod.mk.injEq] at h2
  obtain ⟨h3, h4, h5⟩ := h2
  subst h4 h5
  exact wp_region_runOps h1 (hq t h3)
end Go.Proofs.YtljeecocbcffcaaDoor

/- Plain lemmas: what the reading of an argument says of its cells (integers, strings, bools, structs, arrays, slices). -/
namespace Go.Proofs.YtljeecocbcffcaaDoor
open Go.RowKit
set_option linter.unusedVariables false
set_option linter.unusedSimpArgs false

section
variable {H : Type} {enc : TypeId × Value → H} {P : Program} {w : World} {base : Nat} {sp : Nat → Bool} {held : Bool} {fuel : Nat} {t : TypeId} {cs : List Value} {y : DataW H × List MemPlace}
theorem trod_int_inv {k : IntKind} (ht : P.underlying t = some (.int k)) (h : DataW.trod enc P w base sp held fuel t cs = some y) : ∃ n, cs = [.int k n] ∧ (Lit.int k n).wf = true := by
  cases fuel with
  | zero => cases h
  | succ f =>
    simp only [DataW.trod, ht] at h
    split at h
    all_goals first
      | (cases h; done)
      | (rename_i e; cases e; done)
      | (rename_i e; injection e with e; injection e with e; subst e
         split at h
         · rename_i hk
           obtain ⟨rfl, hw⟩ := hk
           exact ⟨_, rfl, hw⟩
         · cases h)
theorem trod_bool_inv (ht : P.underlying t = some .bool) (h : DataW.trod enc P w base sp held fuel t cs = some y) : ∃ b, cs = [.bool b] := by
  cases fuel with
  | zero => cases h
  | succ f =>
    simp only [DataW.trod, ht] at h
    split at h
    all_goals first
      | (cases h; done)
      | (rename_i e; cases e; done)
      | exact ⟨_, rfl⟩
theorem trod_string_inv (ht : P.underlying t = some .string) (h : DataW.trod enc P w base sp held fuel t cs = some y) : ∃ s, cs = [.string s] ∧ s.size ≤ maxLen := by
  cases fuel with
  | zero => cases h
  | succ f =>
    simp only [DataW.trod, ht] at h
    split at h
    all_goals first
      | (cases h; done)
      | (rename_i e; cases e; done)
      | (split at h
         · rename_i hk
           exact ⟨_, rfl, hk⟩
         · cases h)
theorem mapM_range_some {α : Type} {f : Nat → Option α} : ∀ {n : Nat} {l : List α}, (List.range n).mapM f = some l → l.length = n ∧ ∀ i, i < n → f i = l[i]? := by
  intro n
  induction n with
  | zero => intro l h; simp at h; subst h; exact ⟨rfl, fun i hi => by omega⟩
  | succ n ih =>
    intro l h
    rw [List.range_succ, List.mapM_append] at h
    cases h1 : (List.range n).mapM f with
    | none => rw [h1] at h; cases h
    | some l1 =>
      rw [h1] at h
      cases h2 : f n with
      | none => simp [h2] at h
      | some z =>
        simp [h2] at h
        subst h
        obtain ⟨hl, hi⟩ := ih h1
        refine ⟨by simp [hl], fun i hi' => ?_⟩
        rcases Nat.lt_or_ge i n with hlt | hge
        · rw [List.getElem?_append_left (by omega)]; exact hi i hlt
        · obtain rfl : i = n := by omega
          rw [List.getElem?_append_right (by omega), hl]; simpa using h2
theorem trod_slice_inv {e : TypeId} (ht : P.underlying t = some (.slice e)) (h : DataW.trod enc P w base sp held fuel t cs = some y) :
    cs = [.slice none 0 0] ∨ ∃ a len cap f, cs = [.slice (some a) len cap] ∧ len ≤ cap ∧ cap ≤ maxLen ∧
      ∀ i, i < len → ∃ c z, w.cells? base (a.add (i * P.cellsOf e)) (P.cellsOf e) = some c ∧ DataW.trod enc P w base sp held f e c = some z := by
  cases fuel with
  | zero => cases h
  | succ f =>
    simp only [DataW.trod, ht] at h
    split at h
    all_goals first
      | (cases h; done)
      | (rename_i e; cases e; done)
      | (rename_i e; injection e with e; injection e with e; subst e; exact .inl rfl)
      | (rename_i e; injection e with e; injection e with e; subst e
         split at h
         · rename_i hk
           refine .inr ⟨_, _, _, f, rfl, hk.2.1, hk.2.2, ?_⟩
           cases h1 : (List.range _).mapM (fun i => (w.cells? base (Addr.add _ (i * P.cellsOf _)) (P.cellsOf _)).bind (DataW.trod enc P w base sp held f _)) with
           | none => rw [h1] at h; cases h
           | some l =>
             intro i hi
             have h2 := (mapM_range_some h1).2 i hi
             have hl := (mapM_range_some h1).1
             rw [List.getElem?_eq_getElem (by omega)] at h2
             obtain ⟨c, hc, hz⟩ := Option.bind_eq_some_iff.1 h2
             exact ⟨c, _, hc, hz⟩
         · cases h)
theorem cells_inv {a : Addr} {n : Nat} {c : List Value} (h : w.cells? base a n = some c) : c.length = n ∧ ∀ j u, c[j]? = some u → w.cell? (a.add j) = some u := by
  obtain ⟨_, hl, hc⟩ := World.cells?_some h
  refine ⟨hl, fun j u hu => ?_⟩
  have hj := (List.getElem?_eq_some_iff.1 hu).1
  rw [hc j (by omega), hu]
theorem trod_struct_inv {fs : Array Field} (ht : P.underlying t = some (.struct fs)) (h : DataW.trod enc P w base sp held fuel t cs = some y) :
    ∃ f, cs.length = P.cellsOf t ∧ ∀ x ∈ fs.toList, ∃ z, DataW.trod enc P w base sp held f x.type ((cs.drop x.offset).take (P.cellsOf x.type)) = some z := by
  cases fuel with
  | zero => cases h
  | succ f =>
    simp only [DataW.trod, ht] at h
    split at h
    · rename_i hk
      refine ⟨f, hk, ?_⟩
      cases h1 : List.mapM (fun x : Field => DataW.trod enc P w base sp held f x.type ((cs.drop x.offset).take (P.cellsOf x.type))) fs.toList with
      | none => rw [h1] at h; cases h
      | some l =>
        clear h
        generalize fs.toList = xs at h1
        induction xs generalizing l with
        | nil => intro x hx; cases hx
        | cons x r ih =>
          rw [List.mapM_cons] at h1
          cases h2 : DataW.trod enc P w base sp held f x.type ((cs.drop x.offset).take (P.cellsOf x.type)) with
          | none => rw [h2] at h1; cases h1
          | some z =>
            rw [h2] at h1
            cases h3 : List.mapM (fun x : Field => DataW.trod enc P w base sp held f x.type ((cs.drop x.offset).take (P.cellsOf x.type))) r with
            | none => rw [h3] at h1; cases h1
            | some l' =>
              intro x' hx'
              rcases List.mem_cons.1 hx' with rfl | hx'
              · exact ⟨_, h2⟩
              · exact ih _ h3 x' hx'
    · cases h
end
end Go.Proofs.YtljeecocbcffcaaDoor

/- How arguments in memory read, with what they weigh. -/
namespace Go.Proofs.YtljeecocbcffcaaDoor
open Go.RowKit
set_option linter.unusedVariables false
set_option linter.unusedSimpArgs false

section
variable {P : Program} {H : Type} {enc : TypeId × Value → H} {w : World} {base : Nat} {sp : Nat → Bool} {held : Bool} {fuel : Nat} {t : TypeId} {cs : List Value} {y : DataW H × List MemPlace}
/-- Nothing in a datum weighs more than can be reached. -/
def Light (P : Program) (t : TypeId) (d : DataW H) : Prop := ∀ n ∈ d.weights P t, n ≤ reachBytes
theorem trod_slice_inv2 {e : TypeId} (ht : P.underlying t = some (.slice e)) (h : DataW.trod enc P w base sp held fuel t cs = some y) :
    cs = [.slice none 0 0] ∨ ∃ a len cap f elems spare, cs = [.slice (some a) len cap] ∧ len ≤ cap ∧ cap ≤ maxLen ∧ y.1 = .slice elems spare ∧
      ∀ i, i < len → ∃ c z, w.cells? base (a.add (i * P.cellsOf e)) (P.cellsOf e) = some c ∧ DataW.trod enc P w base sp held f e c = some z ∧ elems[i]? = some z.1 := by
  cases fuel with
  | zero => cases h
  | succ f =>
    simp only [DataW.trod, ht] at h
    split at h
    all_goals first
      | (cases h; done)
      | (rename_i e; cases e; done)
      | (rename_i e; injection e with e; injection e with e; subst e; exact .inl rfl)
      | (rename_i e; injection e with e; injection e with e; subst e
         split at h
         · rename_i hk
           cases h1 : (List.range _).mapM (fun i => (w.cells? base (Addr.add _ (i * P.cellsOf _)) (P.cellsOf _)).bind (DataW.trod enc P w base sp held f _)) with
           | none => rw [h1] at h; cases h
           | some l =>
             rw [h1] at h
             simp only [Option.bind_some] at h
             obtain ⟨rest, -, hy⟩ := Option.map_eq_some_iff.1 h
             refine .inr ⟨_, _, _, f, l.map (·.1), rest.map (·.1), rfl, hk.2.1, hk.2.2, by rw [← hy], ?_⟩
             intro i hi
             have h2 := (mapM_range_some h1).2 i hi
             have hl := (mapM_range_some h1).1
             rw [List.getElem?_eq_getElem (by omega)] at h2
             obtain ⟨c, hc, hz⟩ := Option.bind_eq_some_iff.1 h2
             exact ⟨c, _, hc, hz, by rw [List.getElem?_map, List.getElem?_eq_getElem (by omega)]; rfl⟩
         · cases h)
theorem trod_struct_inv2 {fs : Array Field} (ht : P.underlying t = some (.struct fs)) (h : DataW.trod enc P w base sp held fuel t cs = some y) :
    ∃ f parts, cs.length = P.cellsOf t ∧ y.1 = .agg parts ∧ ∀ (j : Nat) (x : Field), fs.toList[j]? = some x → ∃ z, DataW.trod enc P w base sp held f x.type ((cs.drop x.offset).take (P.cellsOf x.type)) = some z ∧ parts[j]? = some z.1 := by
  cases fuel with
  | zero => cases h
  | succ f =>
    simp only [DataW.trod, ht] at h
    split at h
    · rename_i hk
      obtain ⟨l, h1, hy⟩ := Option.map_eq_some_iff.1 h
      refine ⟨f, l.map (·.1), hk, by rw [← hy], ?_⟩
      clear h hy
      generalize fs.toList = xs at h1
      induction xs generalizing l with
      | nil => intro j x hx; simp at hx
      | cons x r ih =>
        rw [List.mapM_cons] at h1
        cases h2 : DataW.trod enc P w base sp held f x.type ((cs.drop x.offset).take (P.cellsOf x.type)) with
        | none => rw [h2] at h1; cases h1
        | some z =>
          rw [h2] at h1
          cases h3 : List.mapM (fun x : Field => DataW.trod enc P w base sp held f x.type ((cs.drop x.offset).take (P.cellsOf x.type))) r with
          | none => rw [h3] at h1; cases h1
          | some l' =>
            rw [h3] at h1
            injection h1 with h1
            subst h1
            intro j x' hx'
            cases j with
            | zero => simp at hx'; subst hx'; exact ⟨z, h2, rfl⟩
            | succ j => exact ih l' h3 j x' (by simpa using hx')
    · cases h
theorem trod_string_inv2 (ht : P.underlying t = some .string) (h : DataW.trod enc P w base sp held fuel t cs = some y) : ∃ s : ByteArray, cs = [.string s] ∧ y.1 = .lit (.string s.data.toList) := by
  obtain ⟨s, rfl, hs⟩ := trod_string_inv ht h
  cases fuel with
  | zero => cases h
  | succ f =>
    simp only [DataW.trod, ht] at h
    rw [if_pos hs] at h
    injection h with h
    exact ⟨s, rfl, by rw [← h]⟩
theorem Light.elem {e : TypeId} {elems spare : List (DataW H)} (ht : P.underlying t = some (.slice e)) (h : Light P t (.slice elems spare)) {i : Nat} {d : DataW H} (hd : elems[i]? = some d) : Light P e d := by
  intro n hn
  refine h n ?_
  simp only [DataW.weights, ht]
  refine List.mem_cons_of_mem _ (List.mem_append_left _ ?_)
  have : ∀ (l : List (DataW H)) (i : Nat), l[i]? = some d → n ∈ DataW.weightsAll P e l := by
    intro l
    induction l with
    | nil => intro i hi; simp at hi
    | cons x r ih =>
      intro i hi
      rw [DataW.weightsAll]
      cases i with
      | zero => simp at hi; subst hi; exact List.mem_append_left _ hn
      | succ i => exact List.mem_append_right _ (ih i (by simpa using hi))
  exact this elems i hd
theorem Light.part {fs : Array Field} {parts : List (DataW H)} (ht : P.underlying t = some (.struct fs)) (h : Light P t (.agg parts)) {j : Nat} {x : Field} {d : DataW H} (hx : fs.toList[j]? = some x) (hd : parts[j]? = some d) : Light P x.type d := by
  intro n hn
  refine h n ?_
  simp only [DataW.weights, ht]
  exact DataW.weights_mem_each (j := j) (by rw [List.getElem?_map, hx]; rfl) hd n hn
theorem Light.str {l : List UInt8} (h : Light P t (.lit (.string l) : DataW H)) : l.length ≤ 281474976710656 := by
  have h1 := h l.length (by simp [DataW.weights])
  have h2 := reachBytes_lt
  omega
theorem Light.count {e : TypeId} {elems spare : List (DataW H)} (ht : P.underlying t = some (.slice e)) (h : Light P t (.slice elems spare)) : elems.length * P.bytesOf e ≤ reachBytes := by
  have h1 := h ((elems.length + spare.length) * P.bytesOf e) (by simp [DataW.weights, ht])
  have h2 : elems.length * P.bytesOf e ≤ (elems.length + spare.length) * P.bytesOf e := Nat.mul_le_mul_right _ (by omega)
  omega
theorem Light.arg {ts : List TypeId} {ds : List (DataW H)} (h : (DataW.weightsEach P ts ds).all (· ≤ reachBytes) = true) {j : Nat} {d : DataW H} (ht : ts[j]? = some t) (hd : ds[j]? = some d) : Light P t d := by
  intro n hn
  have := List.all_eq_true.1 h n (DataW.weights_mem_each ht hd n hn)
  simpa using this
theorem flat_get {cells : Nat → List Value} {size : Nat} : ∀ {n : Nat}, (∀ i, i < n → (cells i).length = size) →
    ((List.range n).flatMap cells).length = n * size ∧ ∀ (j : Nat) (u : Value), ((List.range n).flatMap cells)[j]? = some u → ∃ i r, i < n ∧ j = i * size + r ∧ (cells i)[r]? = some u
  | 0, _ => ⟨by simp, fun j u h => by simp at h⟩
  | n + 1, hl => by
    obtain ⟨h1, h2⟩ := flat_get (n := n) (fun i hi => hl i (by omega))
    rw [List.range_succ, List.flatMap_append]
    have e : List.flatMap cells [n] = cells n := by simp
    rw [e]
    refine ⟨by rw [List.length_append, h1, hl n (by omega), Nat.succ_mul], fun j u h => ?_⟩
    rcases Nat.lt_or_ge j (n * size) with hlt | hge
    · rw [List.getElem?_append_left (by omega)] at h
      obtain ⟨i, r, hi, hj, hu⟩ := h2 j u h
      exact ⟨i, r, by omega, hj, hu⟩
    · rw [List.getElem?_append_right (by omega), h1] at h
      exact ⟨n, j - n * size, by omega, by omega, h⟩
theorem Reads.of_rows {B size n : Nat} {a : Addr} {cells : Nat → List Value} (hl : ∀ i, i < n → (cells i).length = size) (hc : ∀ i, i < n → ∀ j u, (cells i)[j]? = some u → w.cell? ((a.add (i * size)).add j) = some u)
    (hb : 0 < n → a.block < B) : Reads w B size (some a) n ((List.range n).flatMap cells) := by
  obtain ⟨h1, h2⟩ := flat_get hl
  refine ⟨h1, fun hn => ⟨a, rfl, hb hn, fun j u hu => ?_⟩⟩
  obtain ⟨i, r, hi, rfl, hu'⟩ := h2 j u hu
  rw [← add_of_add]
  exact hc i hi r u hu'
/-- A slice whose elements read each as one of α. -/
theorem open_slice_of {e : TypeId} {α : Type} [Inhabited α] {R : α → Prop} {cells : α → List Value} {size : Nat} (hsz : P.cellsOf e = size) (hpos : 0 < size) (hlen : ∀ x, (cells x).length = size) (ht : P.underlying t = some (.slice e))
    (hone : ∀ (f : Nat) (c : List Value) (z : DataW H × List MemPlace), DataW.trod enc P w base sp held f e c = some z → Light P e z.1 → ∃ x, c = cells x ∧ R x)
    (h : DataW.trod enc P w base sp held fuel t cs = some y) (hw : Light P t y.1) :
    ∃ (A : Option Addr) (m c : Nat) (xs : List α), cs = [.slice A m c] ∧ Reads w w.heap.size size A m (xs.flatMap cells) ∧ xs.length = m ∧ (∀ x ∈ xs, R x) ∧ m ≤ c ∧ c ≤ maxLen := by
  rcases trod_slice_inv2 ht h with rfl | ⟨a, m, cap, f, elems, spare, rfl, h3, h4, hy, h5⟩
  · exact ⟨none, 0, 0, [], rfl, Reads.none_, rfl, by simp, by omega, by omega⟩
  · rw [hsz] at h5
    rw [hy] at hw
    have h6 : ∀ i, ∃ x : α, i < m → w.cells? base (a.add (i * size)) size = some (cells x) ∧ R x := fun i => by
      by_cases hi : i < m
      · obtain ⟨c, z, hc, hz, he⟩ := h5 i hi
        obtain ⟨x, rfl, hr⟩ := hone f c z hz (hw.elem ht he)
        exact ⟨x, fun _ => ⟨hc, hr⟩⟩
      · exact ⟨default, fun h => (hi h).elim⟩
    obtain ⟨g, hg⟩ := Classical.axiomOfChoice h6
    refine ⟨some a, m, cap, (List.range m).map g, rfl, ?_, by simp, ?_, h3, h4⟩
    · have e : ((List.range m).map g).flatMap cells = (List.range m).flatMap fun i => cells (g i) := by simp [List.flatMap_map]
      rw [e]
      refine Reads.of_rows (fun i _ => hlen _) (fun i hi j u hu => ?_) (fun hm => ?_)
      · exact (cells_inv (hg i hi).1).2 j u hu
      · have := World.cells?_block (hg 0 hm).1 hpos
        rwa [block_of_add] at this
    · intro x hx
      obtain ⟨i, hi, rfl⟩ := List.mem_map.1 hx
      exact (hg i (List.mem_range.1 hi)).2
end
end Go.Proofs.YtljeecocbcffcaaDoor

/- A row's wrap that keeps what is laid and the world's shape alike. -/
namespace Go.Proofs.YtljeecocbcffcaaDoor
open Go Go.RowKit
variable {H : Type} {enc : TypeId × Value → H}
theorem returns_and_shaped {a : Assume} {C : Checked} {os : Os} {f : FuncId} {fn : Func} {s : ChangeSpec} {conds : List PathCond} {apart fresh handsOn again : Bool} {X : World → Array Value → Prop}
    (hX : ∀ (w w' : World) (args : Array Value), w.heap = w'.heap → X w args → X w' args)
    (own : ownKnob C.prog.godebug = none) (started : os.Started) (noInit : C.prog.inits.idxOf? f = none) (hfn : C.prog.funcs[f]? = some fn)
    (witness : ∃ (w : World) (tape : Tape) (i : Input), w.os = os ∧ (w.forCall tape i).Shaped C.prog ∧ i.vars = [] ∧ Input.okWide C.prog (w.forCall tape i) .any w.heap.size f i ∧
      ((s.pre enc C.prog fn conds apart (w.forCall tape i).memory i.args ∧ X (w.forCall tape i).memory i.args) ∧ sizedMet enc C.prog fn (OpenSpec.ofChange s) apart (w.forCall tape i).memory i.args) ∧ a.holds C.prog (lone (Frame.enter C.prog f i.args .normal) [] (w.forCall tape i)))
    (contract : ∀ (W : World) (base : Nat) (args : Array Value) (ds gs : List (DataW H)) (before : List MemPlace),
      (∀ (j : Nat) t v, fn.params[j]? = some t → args[j]? = some v → Value.okWide C.prog W .any base t v) →
      DataW.Whole enc C.prog fn.params.toList s.vars apart W args.toList ds gs before →
      conds.all (PathCond.test C.prog ⟨fn.params.toList, ds, s.plain.varTypes C.prog, gs⟩) = true →
      (DataW.weightsEach C.prog (fn.params.toList ++ s.plain.varTypes C.prog) (ds ++ gs)).all (· ≤ reachBytes) = true → X W args →
      W.ShapedOpen C.prog →
      a.holds C.prog (lone (Frame.enter C.prog f args .normal) [] W) →
      Calls C.prog f args W fun e W' => ∃ v, e = .returned v ∧ s.post enc C.prog fn apart fresh handsOn again W args v W') :
    ReturnsInHanded a C os f .any (fun w args => (s.pre enc C.prog fn conds apart w args ∧ X w args) ∧ sizedMet enc C.prog fn (OpenSpec.ofChange s) apart w args) (s.post enc C.prog fn apart fresh handsOn again) := by
  refine returnsInHanded_of_calls own started noInit witness ?_
  intro w tape i _ hsh _ hok hpre hholds
  obtain ⟨_, _, _, fn', hfn', _, _, _, _, hval⟩ := hok
  have e : fn' = fn := Option.some.inj (hfn'.symm.trans hfn)
  subst e
  obtain ⟨⟨⟨ds, gs, before, hw, hc⟩, hx⟩, hz⟩ := hpre
  have hw' := DataW.Whole.of_heap (w' := w.forCall tape i) (by rfl) hw
  refine (contract (w.forCall tape i) w.heap.size i.args ds gs before hval hw' hc (hz.weights hw) (hX _ _ _ (by rfl) hx) hsh hholds).mono fun e W' ⟨v, he, hp⟩ => ?_
  subst he
  exact ChangeSpec.post_blind hp
end Go.Proofs.YtljeecocbcffcaaDoor
