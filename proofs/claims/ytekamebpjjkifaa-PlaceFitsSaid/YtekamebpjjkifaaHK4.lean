/- Texts that belong together, joined: what each one holds is told ahead of it. -/
import Derived.Test.YtekamebpjjkifaaHK2
import Derived.Test.YtekamebpjjkifaaHK3
import Derived.Laws.EntriesVeiled
import Derived.Test.YtekamebpjjkifaaHK1
import Derived.BigQuiet
/- A range over a function whose body may leave the loop, over an iterator that writes into blocks of its own that stood before the loop: one law. -/
namespace Go.Proofs.Ytekamebpjjkifaa
open Go.RowKit
set_option linter.unusedVariables false
set_option linter.unusedSimpArgs false

/-- Below B, and outside the iterator's own blocks, nothing has turned. -/
structure BelowE (B : Nat) (own : Nat → Prop) (a w : World) : Prop where
  os : w.os = a.os
  tape : w.tape = a.tape
  output : w.output = a.output
  size : a.heap.size ≤ w.heap.size
  block : ∀ k, k < B → ¬ own k → w.heap[k]? = a.heap[k]?
theorem BelowE.of {B : Nat} {own : Nat → Prop} {a w : World} (h : Below B a w) : BelowE B own a w := ⟨h.os, h.tape, h.output, h.size, fun k hk _ => h.block k hk⟩
theorem BelowE.mono {B C : Nat} {own : Nat → Prop} {a w : World} (h : BelowE B own a w) (hc : C ≤ B) : BelowE C own a w := ⟨h.os, h.tape, h.output, h.size, fun k hk ho => h.block k (by omega) ho⟩
theorem BelowE.set {B : Nat} {own : Nat → Prop} (a : World) {p : Addr} (hp : own p.block) (u : Value) : BelowE B own a (a.setCell p u) :=
  ⟨rfl, rfl, rfl, by simp, fun k _ ho => Below.heap_setCell a p u k (by rintro rfl; exact ho hp)⟩
/-- An invariant that speaks of blocks below B alone, and of no own block of the iterator's. -/
def DeepE {β : Type} (B : Nat) (own : Nat → Prop) (J : β → World → Prop) : Prop :=
  ∀ s W W', J s W → BelowE B own W W' → J s W'
/-- The iterator hands over xs, or a part of it where a round has said 'no more', whatever the body does within its word. -/
def SeqUntilE {α : Type} (F : Fence) (n : Nat) (P : Program) (gf : Nat) (lb : Array Value) (encs : α → Array Value) (X own : Nat → Prop) (xs : List α) (w : World) : Prop :=
  ∀ (l : Nat) (J Jx : List α → World → Prop) (W : World), Below w.heap.size w W → DeepE W.heap.size own J → DeepE W.heap.size own Jx →
    (∀ pre x r W1, J pre W1 → xs = pre ++ x :: r → YieldAt F (n - 1) P l (encs x) W1 fun e W' => (e = .returned (.bool true) ∧ J (pre ++ [x]) W' ∧ KeepC X W1 W') ∨ (e = .returned (.bool false) ∧ Jx (pre ++ [x]) W')) →
    J [] W → CallsIn F n P gf (#[.func (.yield l) #[] #[]] ++ lb) W fun e W' => (∃ v, e = .returned v) ∧ (J xs W' ∨ ∃ pre x r, xs = pre ++ x :: r ∧ Jx (pre ++ [x]) W')

theorem wpIn_range_untilE {P : Program} {F : Fence} {n : Nat} {α : Type} {g : Operand} {ps : Array Tmp} {assign body : Code} {Q : Exit → Act → World → Prop} {a : Act} {w : World}
    (hro : F.round = none) (hdp : F.depth = none) {gf : Nat} {lb : Array Value} (hg : a.eval g = .func (.func gf) #[] lb) (hFg : F.fn gf) (eg : ∀ args w, (callFunc gf args).run P w = .ok (.enter gf args) w)
    {encs : α → Array Value} {X own : Nat → Prop} {xs : List α} {w0 : World} (hown : ∀ k, own k → k < w0.heap.size) (hseq : SeqUntilE F (n - 1) P gf lb encs X own xs w0) (hb0 : Below w0.heap.size w0 w) (hps : ∀ x, (encs x).size = ps.size)
    (I : List α → World → Prop) (Ix : Code → List α → World → Prop) (hI : DeepE w.heap.size own I) (hIx : ∀ c, DeepE w.heap.size own (Ix c)) (h0 : I [] w)
    (hround : ∀ (l : Nat) (pre : List α) (x : α) (r : List α) (W : World), I pre W → xs = pre ++ x :: r → w.heap.size + 2 ≤ W.heap.size →
      assign.wpIn (F.inRound l) (n - 1 - 1) P (Exit.then (fun a₁ W1 => KeepC X W W1 ∧ KeepsOthers W W1 ∧
        ∀ W2, W1.grownBy W2 (some l) → (w.heap.size ≤ l ∧ l < w.heap.size + 2) → body.wpIn (F.inRound l) (n - 1 - 1) P (goesOnX X W2 (I (pre ++ [x])) (fun c => Ix c (pre ++ [x]))) a₁ W2) (fun _ _ _ => False))
        { tmps := (ps.zip (encs x)).foldl (fun t (p, v) => t.setIfInBounds p v) a.tmps, defers := [] } W)
    (hdone : ∀ (D : Nat) (W : World), I xs W → W.heap[D]? = some (.deferred (some [])) → w.heap.size ≤ D → Q .normal { a with defers := { target := .collected D, args := #[] } :: a.defers } W)
    (hstop : ∀ (D : Nat) (c : Code) (pre : List α) (x : α) (r : List α) (W : World), xs = pre ++ x :: r → Ix c (pre ++ [x]) W → W.heap[D]? = some (.deferred (some [])) → w.heap.size ≤ D → c.wpIn F n P Q { a with defers := { target := .collected D, args := #[] } :: a.defers } W) :
    (Code.rangeFunc g ps assign body).wpIn F n P Q a w := by
  refine wpIn_rangeFunc ?_
  intro fn hfn
  rw [hro]
  obtain ⟨rec, hrec⟩ : ∃ rec : LoopState → Option Code → Loop, rec = fun st pe => { state := st, pending := pe, fn, tmps := a.tmps, params := ps, assign, body, defers := w.heap.size } := ⟨_, rfl⟩
  obtain ⟨W1, hW1⟩ : ∃ W1, (w.alloc (.deferred (some []))).alloc (.loop (rec .ready none)) = W1 := ⟨_, rfl⟩
  have hsz : W1.heap.size = w.heap.size + 2 := by rw [← hW1]; simp
  have hL1 : W1.heap[w.heap.size + 1]? = some (.loop (rec .ready none)) := by
    rw [← hW1]; have := World.alloc_heap_new (w.alloc (.deferred (some []))) (.loop (rec .ready none)); rwa [World.size_alloc] at this
  have hK1 : W1.heap[w.heap.size]? = some (.deferred (some [])) := by
    rw [← hW1]; exact (Below.heap_alloc _ _ _ (by simp)).trans (World.alloc_heap_new w _)
  have hI1 : I [] W1 := by
    rw [← hW1]
    exact hI _ _ _ h0 (.of (((Below.refl _ _).alloc (Nat.le_refl _) _).alloc (by simp) _))
  have hb1 : Below w0.heap.size w0 W1 := by
    rw [← hW1]; exact hb0.trans ((((Below.refl _ w).alloc (Nat.le_refl _) _).alloc (by simp) _).mono hb0.size)
  refine ⟨w.heap.size + 1, [{ target := .collected w.heap.size, args := #[] }], W1, { target := .fn (.func gf) lb, args := #[.func (.yield (w.heap.size + 1)) #[] #[]] }, W1, gf,
    #[.func (.yield (w.heap.size + 1)) #[] #[]] ++ lb, W1, ?_, ?_, ?_, ?_, (fun h => by rw [hdp] at h; cases h), ?_⟩
  · rw [← hW1, hrec]; exact run_enterLoop_outer _ _ _ _ _
  · simp only [resolve, hg]
    simp [go_sem]
  · intro f' hf'; simp [Target.leads] at hf'; subst hf'; exact hFg
  · simp [invoke, go_sem, eg]
  · refine (hseq (w.heap.size + 1)
      (fun pre W => I pre W ∧ W.heap[w.heap.size + 1]? = some (.loop (rec .ready none)) ∧ W.heap[w.heap.size]? = some (.deferred (some [])) ∧ w.heap.size + 2 ≤ W.heap.size)
      (fun pre W => ∃ c, Ix c pre W ∧ W.heap[w.heap.size + 1]? = some (.loop (rec .done (some c))) ∧ W.heap[w.heap.size]? = some (.deferred (some [])))
      W1 hb1 ?_ ?_ ?_ ⟨hI1, hL1, hK1, by omega⟩).mono ?_
    · rintro s A B ⟨hs, hl, hk, hz⟩ hgr
      refine ⟨hI s A B hs (hgr.mono (by omega)), ?_, ?_, Nat.le_trans hz hgr.size⟩
      · rw [hgr.block _ (by omega) (fun h => by have := hown _ h; have := hb0.size; omega)]; exact hl
      · rw [hgr.block _ (by omega) (fun h => by have := hown _ h; have := hb0.size; omega)]; exact hk
    · rintro s A B ⟨c, hs, hl, hk⟩ hgr
      refine ⟨c, hIx c s A B hs (hgr.mono (by omega)), ?_, ?_⟩
      · rw [hgr.block _ (by omega) (fun h => by have := hown _ h; have := hb0.size; omega)]; exact hl
      · rw [hgr.block _ (by omega) (fun h => by have := hown _ h; have := hb0.size; omega)]; exact hk
    · rintro pre x r W ⟨hi, hl, hk, hz⟩ hxs
      have hy := run_yield (P := P) (args := encs x) hl (by rw [hrec]; exact hps x)
      rw [hrec] at hy
      refine ⟨fn, _, assign, body, hy, roundIn_of_wpIn hfn (wpIn_mono (hround (w.heap.size + 1) pre x r W hi hxs hz) ?_)⟩
      rintro e a1 W2 hp
      cases e with
      | normal =>
        obtain ⟨hkx, hlp, hbody⟩ := hp
        have hl2 := hlp.same _ _ hl rfl
        have hk2 := hlp.same _ _ hk rfl
        refine ⟨_, run_beginRound hl2 (by rw [hrec]), ?_⟩
        have hl3 : (W2.putObj (w.heap.size + 1) (.loop { rec .ready none with state := .busy })).heap[w.heap.size + 1]? = some (.loop { rec .ready none with state := .busy }) := World.putObj_heap_same (Array.getElem?_eq_some_iff.1 hl2).1
        have hk3 : (W2.putObj (w.heap.size + 1) (.loop { rec .ready none with state := .busy })).heap[w.heap.size]? = some (.deferred (some [])) := (World.putObj_heap_other (by omega)).trans hk2
        have kx3 := hkx.trans (KeepC.put X W2 _ _ (.loop { rec .ready none with state := .busy }) hl2 rfl)
        have fin : ∀ (jump : Option Code) (W3 : World), KeepsOthers (W2.putObj (w.heap.size + 1) (.loop { rec .ready none with state := .busy })) W3 →
            (Instr.endRound (w.heap.size + 1) jump).run P W3 = .ok (.bool jump.isNone) (W3.putObj (w.heap.size + 1) (.loop (rec (if jump.isNone then .ready else .done) jump))) ∧
            W3.heap[w.heap.size + 1]? = some (.loop { rec .ready none with state := .busy }) ∧
            (W3.putObj (w.heap.size + 1) (.loop (rec (if jump.isNone then .ready else .done) jump))).heap[w.heap.size + 1]? = some (.loop (rec (if jump.isNone then .ready else .done) jump)) ∧
            (W3.putObj (w.heap.size + 1) (.loop (rec (if jump.isNone then .ready else .done) jump))).heap[w.heap.size]? = some (.deferred (some [])) := fun jump W3 hk4 => by
          have hl4 := hk4.same _ _ hl3 rfl
          have := run_endRound (P := P) jump hl4
          rw [hrec] at this ⊢
          exact ⟨this, by rw [hrec] at hl4; exact hl4, World.putObj_heap_same (Array.getElem?_eq_some_iff.1 hl4).1, (World.putObj_heap_other (by omega)).trans (hk4.same _ _ hk3 rfl)⟩
        refine wpIn_mono (hbody _ (grownBy_putObj' W2 _ _) ⟨by omega, by omega⟩) ?_
        rintro e a2 W4 hp4
        cases e with
        | normal =>
          obtain ⟨kx4, lp4, hi4⟩ := hp4
          obtain ⟨hr, hl4, hl5, hk5⟩ := fin none W4 lp4
          refine ⟨_, _, hr, .inl ⟨rfl, ⟨hI _ _ _ hi4 (.of ((Below.refl _ _).putObj (by omega) _)), hl5, hk5, ?_⟩, (kx3.trans kx4).trans (KeepC.put X W4 _ _ _ hl4 rfl)⟩⟩
          have h1 := (kx3.trans kx4).size
          simp [World.putObj] at h1 ⊢; omega
        | ret =>
          obtain ⟨lp4, hi4⟩ := hp4
          obtain ⟨hr, hl4, hl5, hk5⟩ := fin (some .ret) W4 lp4
          exact ⟨_, _, hr, .inr ⟨rfl, .ret, hIx _ _ _ _ hi4 (.of ((Below.refl _ _).putObj (by omega) _)), hl5, hk5⟩⟩
        | exit id =>
          obtain ⟨lp4, hi4⟩ := hp4
          obtain ⟨hr, hl4, hl5, hk5⟩ := fin (some (.exit id)) W4 lp4
          exact ⟨_, _, hr, .inr ⟨rfl, .exit id, hIx _ _ _ _ hi4 (.of ((Below.refl _ _).putObj (by omega) _)), hl5, hk5⟩⟩
        | goto t =>
          obtain ⟨lp4, hi4⟩ := hp4
          obtain ⟨hr, hl4, hl5, hk5⟩ := fin (some (.goto t)) W4 lp4
          exact ⟨_, _, hr, .inr ⟨rfl, .goto t, hIx _ _ _ _ hi4 (.of ((Below.refl _ _).putObj (by omega) _)), hl5, hk5⟩⟩
        | _ => exact hp4.elim
      | _ => exact hp.elim
    · rintro e W2 ⟨⟨v, rfl⟩, (⟨hi, hl, hk, hz⟩ | ⟨pre, x, r, hxs, c, hi, hl, hk⟩)⟩
      · refine ⟨none, _, by have := run_endLoop (P := P) hl (by rw [hrec]; simp); rw [hrec] at this; exact this, ?_⟩
        exact hdone _ _ (hI _ _ _ hi (.of ((Below.refl _ _).putObj (by omega) _))) ((World.putObj_heap_other (by omega)).trans hk) (Nat.le_refl _)
      · refine ⟨some c, _, by have := run_endLoop (P := P) hl (by rw [hrec]; simp); rw [hrec] at this; exact this, ?_⟩
        exact hstop _ c pre x r _ hxs (hIx c _ _ _ hi (.of ((Below.refl _ _).putObj (by omega) _))) ((World.putObj_heap_other (by omega)).trans hk) (Nat.le_refl _)
end Go.Proofs.Ytekamebpjjkifaa

/- A valid expression, walked in the program: a closure that calls itself, through slices.ContainsFunc. -/
namespace Go.Proofs.Ytekamebpjjkifaa
open Go.RowKit
set_option linter.unusedSimpArgs false
set_option linter.unusedVariables false

/-- Only block g, of what was there, may have changed. -/
def UpdB (g : Nat) (w w' : World) : Prop := BelowE w.heap.size (fun k => k = g) w w'
section
variable {g : Nat} {w w' w'' : World}
theorem UpdB.refl (g : Nat) (w : World) : UpdB g w w := ⟨rfl, rfl, rfl, Nat.le_refl _, fun _ _ _ => rfl⟩
theorem UpdB.of_below (h : Below w.heap.size w w') : UpdB g w w' := BelowE.of h
theorem UpdB.trans (h : UpdB g w w') (k : UpdB g w' w'') : UpdB g w w'' :=
  ⟨k.os.trans h.os, k.tape.trans h.tape, k.output.trans h.output, Nat.le_trans h.size k.size, fun i hi hne => (k.block i (Nat.lt_of_lt_of_le hi h.size) hne).trans (h.block i hi hne)⟩
theorem UpdB.size (h : UpdB g w w') : w.heap.size ≤ w'.heap.size := BelowE.size h
theorem UpdB.set (w : World) (o : Nat) (u : Value) : UpdB g w (w.setCell ⟨g, o, none⟩ u) := BelowE.set (own := fun k => k = g) w (p := ⟨g, o, none⟩) rfl u
theorem UpdB.alloc (w : World) (o : Obj) : UpdB g w (w.alloc o) := BelowE.of ((Below.refl _ _).alloc (Nat.le_refl _) o)
theorem UpdB.below (h : UpdB g w w') (hg : g < w.heap.size) : Below g w w' := ⟨h.os, h.tape, h.output, BelowE.size h, fun k hk => h.block k (by omega) (by omega)⟩
theorem Blk.upd {k : Nat} {t : TypeId} {cs : Array Value} (h : Blk w k t cs) (hu : UpdB g w w') (hk : k ≠ g) : Blk w' k t cs := (hu.block k h.lt hk).trans h
end
/-- What visit returns: whether the expression is valid there, and how many are left. -/
def RetVis (R : Option Nat) (bl : Nat) (w : World) (e : Ending) (w' : World) : Prop :=
  UpdB bl w w' ∧ ∃ (b : Bool) (z : Int), e = .returned (.bool b) ∧ Blk w' bl 3 #[.int .i64 z] ∧ (R = none ∧ b = false ∨ ∃ r : Nat, R = some r ∧ b = true ∧ z = r)
/-- The cells of the function value. -/
def visV (bl bv : Nat) : Array Value := #[.func (.func 87) #[] #[.pointer (some ⟨bl, 0, none⟩), .pointer (some ⟨bv, 0, none⟩)]]
def VisOk (x : KE) : Prop := ∀ (deep left bl bv B : Nat) (w : World), deep ≤ 32 → left ≤ 256 → x.In w B → B ≤ bl → bl ≠ bv → Blk w bl 3 #[.int .i64 left] → Blk w bv 154 (visV bl bv) →
  Calls Try.prog 87 #[.agg x.cells, .int .i64 ((deep : Int) + 1), .pointer (some ⟨bl, 0, none⟩), .pointer (some ⟨bv, 0, none⟩)] w (RetVis (roomE deep left x) bl w)
/-- The inner closure answers the opposite. -/
def RetNot (R : Option Nat) (bl : Nat) (w : World) (e : Ending) (w' : World) : Prop :=
  UpdB bl w w' ∧ ∃ (b : Bool) (z : Int), e = .returned (.bool b) ∧ Blk w' bl 3 #[.int .i64 z] ∧ (R = none ∧ b = true ∨ ∃ r : Nat, R = some r ∧ b = false ∧ z = r)
set_option maxRecDepth 100000 in
set_option maxHeartbeats 2000000 in
theorem kInner (x : KE) (hx : VisOk x) (deep left bl bv bd B : Nat) (w : World) (hd : deep ≤ 31) (hl : left ≤ 256) (hi : x.In w B) (hB : B ≤ bl) (hlv : bl ≠ bv) (hbl : Blk w bl 3 #[.int .i64 left]) (hbv : Blk w bv 154 (visV bl bv)) (hbd : Blk w bd 3 #[.int .i64 ((deep : Int) + 1)]) :
    Calls Try.prog 90 #[.agg x.cells, .pointer (some ⟨bv, 0, none⟩), .pointer (some ⟨bd, 0, none⟩)] w (RetNot (roomE (deep + 1) left x) bl w) := by
  obtain ⟨W0, hW0⟩ : ∃ W, w.alloc (.cells x.cells 99) = W := ⟨_, rfl⟩
  have b0 : Blk W0 w.heap.size 99 x.cells := by rw [← hW0]; exact Blk.new w _ _
  have K0 : Hid (Below w.heap.size w W0) := Lib.hid (by rw [← hW0]; exact (Below.refl _ _).alloc (Nat.le_refl _) _)
  have HC := Lib.hid (hx (deep + 1) left bl bv B W0 (by omega) hl (hi.below (K0.out.mono (by have := hbl.lt; omega))) hB hlv (hbl.call K0.out) (hbv.call K0.out))
  have c1 := (hbv.call K0.out).cell 0
  have c2 := (hbd.call K0.out).cell 0
  simp [visV] at c1 c2
  generalize roomE (deep + 1) left x = R at *
  simp only [KE.cells] at hW0 b0 HC ⊢
  have e0 := b0.cell 0
  have e1 := b0.cell 1
  have e2 := b0.cell 2
  have e3 := b0.cell 3
  have e4 := b0.cell 4
  have e5 := b0.cell 5
  simp at e0 e1 e2 e3 e4 e5
  have hs : (((deep + 1 : Nat) : Int) + 1) = (deep : Int) + 1 + 1 := by omega
  rw [hs] at HC
  clear hs hx hi hbl hbv hbd b0
  go_enter Try.func90, Try.ntmps90
  go_wp2_with (go_at_call 87; (with_reducible refine HC.out.mono ?_); rintro e w1 ⟨hu, b, z, rfl, hb, hR⟩
               have HU := Lib.hid hu
               have HB1 := Lib.hid hb
               have HR := Lib.hid hR
               clear hu hb hR)
  go_ret
  refine ⟨(UpdB.of_below K0.out).trans HU.out, !b, z, rfl, HB1.out, ?_⟩
  rcases HR.out with ⟨h1, h2⟩ | ⟨r, h1, h2, h3⟩
  · exact .inl ⟨h1, by rw [h2]; rfl⟩
  · exact .inr ⟨r, h1, by rw [h2]; rfl, h3⟩
end Go.Proofs.Ytekamebpjjkifaa

/- A valid expression, walked in the program: its parts, one after the other; valid itself. -/
namespace Go.Proofs.Ytekamebpjjkifaa
open Go.RowKit
set_option linter.unusedSimpArgs false
set_option linter.unusedVariables false

theorem roomL_le_of : ∀ {l : List KE} {inside left r : Nat}, (∀ e ∈ l, ∀ (a r : Nat), roomE inside a e = some r → r ≤ a) → roomL inside left l = some r → r ≤ left
  | [], inside, left, r, _, h => by rw [roomL] at h; cases h; exact Nat.le_refl _
  | x :: l, inside, left, r, hall, h => by
    rw [roomL] at h
    cases hx : roomE inside left x with
    | none => rw [hx] at h; cases h
    | some y =>
      rw [hx] at h
      have h1 := hall x (by simp) _ _ hx
      have h2 := roomL_le_of (l := l) (fun e he => hall e (by simp [he])) h
      omega
theorem roomE_le (e : KE) : ∀ (inside left r : Nat), roomE inside left e = some r → r ≤ left := by
  induction e using KE.ind with
  | h e ih =>
    intro inside left r h
    rw [roomE_eq] at h
    split at h
    · cases h
    · have := roomL_le_of (fun x hx a r => ih x hx (inside + 1) a r) h
      omega
theorem roomL_le {l : List KE} {inside left r : Nat} (h : roomL inside left l = some r) : r ≤ left := roomL_le_of (fun e _ a r => roomE_le e inside a r) h
theorem roomL_append : ∀ (a b : List KE) (inside left : Nat), roomL inside left (a ++ b) = match roomL inside left a with
    | none => none
    | some r => roomL inside r b
  | [], b, inside, left => by rw [roomL]; rfl
  | x :: a, b, inside, left => by
    rw [List.cons_append, roomL, roomL]
    cases roomE inside left x with
    | none => rfl
    | some y => exact roomL_append a b inside y
theorem roomL_snoc {l : List KE} {k inside left r : Nat} {x : KE} (h : l[k]? = some x) (hr : roomL inside left (l.take k) = some r) : roomL inside left (l.take (k + 1)) = roomE inside r x := by
  rw [List.take_add_one, h, Option.toList_some, roomL_append, hr]
  simp only
  rw [roomL]
  cases roomE inside r x with
  | none => rfl
  | some y => simp only; rw [roomL]
theorem roomL_fail {l : List KE} {k inside left r : Nat} {x : KE} (h : l[k]? = some x) (hr : roomL inside left (l.take k) = some r) (hx : roomE inside r x = none) : roomL inside left l = none := by
  have h1 : roomL inside left (l.take (k + 1)) = none := by rw [roomL_snoc h hr, hx]
  have h2 := roomL_append (l.take (k + 1)) (l.drop (k + 1)) inside left
  rw [List.take_append_drop, h1] at h2
  exact h2
/-- An expression of a row: its cells, one by one. -/
theorem kes_six {w : World} {B : Nat} {A : Option Addr} {l : List KE} (h : kesIn w B A l) {k : Nat} (hk : k < l.length) :
    ∃ b off x, A = some ⟨b, off, none⟩ ∧ b < B ∧ l[k]? = some x ∧ x.In w B ∧ w.cell? ⟨b, off + k * 6, none⟩ = some (.int .u8 x.kind) ∧ w.cell? ⟨b, off + k * 6 + 1, none⟩ = some (.int .u8 x.oper) ∧ w.cell? ⟨b, off + k * 6 + 2, none⟩ = some (.int .u8 x.tk) ∧
      w.cell? ⟨b, off + k * 6 + 3, none⟩ = some (.int .i32 x.n) ∧ w.cell? ⟨b, off + k * 6 + 4, none⟩ = some (.int .i64 x.v) ∧ w.cell? ⟨b, off + k * 6 + 5, none⟩ = some (.slice x.A x.l.length x.c) := by
  obtain ⟨b, off, x, h1, h2, h3, h4, hc⟩ := kes_at h hk
  exact ⟨b, off, x, h1, h2, h3, h4, hc 0 _ rfl, hc 1 _ rfl, hc 2 _ rfl, hc 3 _ rfl, hc 4 _ rfl, hc 5 _ rfl⟩
/-- What IndexFunc returns. -/
def RetIdx (R : Option Nat) (bl : Nat) (w : World) (e : Ending) (w' : World) : Prop :=
  UpdB bl w w' ∧ ∃ (i z : Int), e = .returned (.int .i64 i) ∧ Blk w' bl 3 #[.int .i64 z] ∧ (R = none ∧ 0 ≤ i ∨ ∃ r : Nat, R = some r ∧ i = -1 ∧ z = r)
def LeftAt (l : List KE) (deep left bl k : Nat) (w : World) : Prop := ∃ r : Nat, r ≤ 256 ∧ roomL (deep + 1) left (l.take k) = some r ∧ Blk w bl 3 #[.int .i64 r]
set_option maxRecDepth 100000 in
set_option maxHeartbeats 4000000 in
theorem kIndexE (l : List KE) (A : Option Addr) (c : Nat) (hall : ∀ x ∈ l, VisOk x) (deep left bl bv bd B : Nat) (w : World) (hd : deep ≤ 31) (hl : left ≤ 256) (hi : kesIn w B A l) (hB : B ≤ bl) (hlv : bl ≠ bv) (hld : bl ≠ bd)
    (hbl : Blk w bl 3 #[.int .i64 left]) (hbv : Blk w bv 154 (visV bl bv)) (hbd : Blk w bd 3 #[.int .i64 ((deep : Int) + 1)]) :
    Calls Try.prog 94 #[.slice A l.length c, .func (.func 90) #[] #[.pointer (some ⟨bv, 0, none⟩), .pointer (some ⟨bd, 0, none⟩)]] w (RetIdx (roomL (deep + 1) left l) bl w) := by
  have hlen := hi.1
  unfold lenOk at hlen
  have HI := Lib.hid hi
  have HV := Lib.hid hbv
  have HD := Lib.hid hbd
  have L0 : Hid (LeftAt l deep left bl 0 w) := Lib.hid ⟨left, hl, by rw [List.take_zero, roomL], hbl⟩
  have HLT := Lib.hid hbl.lt
  have HALL := Lib.hid hall
  obtain ⟨n, hn⟩ : ∃ n, l.length = n := ⟨_, rfl⟩
  have HN := Lib.hid hn
  rw [hn] at hlen ⊢
  clear hi hbv hbd hbl hn hall
  go_enter Try.func94, Try.ntmps94
  go_wp2_with fail
  go_loopw [8] (fun i wr => ∃ k : Nat, k ≤ n ∧ i = .int .i64 k ∧ Hid (LeftAt l deep left bl k wr) ∧ Hid (UpdB bl w wr)) (fun i _ => n - (intOf i).toNat)
  case atStart => exact ⟨0, Nat.zero_le _, rfl, L0, Lib.hid (UpdB.refl _ _)⟩
  case round =>
    clear L0
    obtain ⟨k, hk, rfl, L, U⟩ := hrel
    by_cases hlt : k < n
    · have hltI : (k : Int) < n := by omega
      have hbW := (U.out.below HLT.out).mono hB
      obtain ⟨b, off, x, rfl, hb, hx, hin, c0, c1, c2, c3, c4, c5⟩ := kes_six (HI.out.below hbW) (by rw [HN.out]; exact hlt)
      obtain ⟨r, hr, hR, hbl⟩ := L.out
      have HX := Lib.hid hx
      have HR := Lib.hid hR
      have HC := Lib.hid (kInner x (HALL.out x (List.mem_of_getElem? hx)) deep r bl bv bd B wr hd hr hin hB hlv hbl (HV.out.upd U.out (Ne.symm hlv)) (HD.out.upd U.out (Ne.symm hld)))
      simp only [KE.cells] at HC
      clear hbW hin hx hR hbl L
      cases hq : roomE (deep + 1) r x with
      | none =>
        rw [hq] at HC
        have HQ := Lib.hid hq
        clear hq
        go_wp2_with (go_at_call 90; (with_reducible refine HC.out.mono ?_); rintro e w1 ⟨hu, b1, z, rfl, hb1, hR⟩
                     obtain rfl : b1 = true := by rcases hR with h | ⟨_, h, _⟩; exact h.2; cases h
                     have HU := Lib.hid (U.out.trans hu)
                     have HB1 := Lib.hid hb1
                     clear hu hb1 hR)
        go_ret
        exact ⟨HU.out, k, z, rfl, HB1.out, .inl ⟨roomL_fail HX.out HR.out HQ.out, by omega⟩⟩
      | some r' =>
        rw [hq] at HC
        have HQ := Lib.hid hq
        clear hq
        go_wp2_with (go_at_call 90; (with_reducible refine HC.out.mono ?_); rintro e w1 ⟨hu, b1, z, rfl, hb1, hR⟩
                     obtain ⟨rfl, rfl⟩ : b1 = false ∧ z = r' := by rcases hR with ⟨h, _⟩ | ⟨_, h, h1, h2⟩; cases h; cases h; exact ⟨h1, h2⟩
                     have HU := Lib.hid (U.out.trans hu)
                     have HB1 := Lib.hid hb1
                     clear hu hb1 hR)
        go_roundw
        case rel => exact ⟨k + 1, by omega, by go_num, Lib.hid ⟨r', by have := roomE_le _ _ _ _ HQ.out; omega, by rw [roomL_snoc HX.out HR.out, HQ.out], HB1.out⟩, HU⟩
        case measure => simp [intOf]; omega
    · have hltI : ¬ (k : Int) < n := by omega
      obtain rfl : n = k := by omega
      obtain ⟨r, hr, hR, hbl⟩ := L.out
      rw [List.take_of_length_le (by rw [HN.out]; omega)] at hR
      have HR := Lib.hid hR
      have HB1 := Lib.hid hbl
      clear hR hbl
      go_wp2
      go_ret
      exact ⟨U.out, -1, r, rfl, HB1.out, .inr ⟨r, HR.out, rfl, rfl⟩⟩
end Go.Proofs.Ytekamebpjjkifaa

/- A valid expression, walked in the program: the closure that calls itself; valid. -/
namespace Go.Proofs.Ytekamebpjjkifaa
open Go.RowKit
set_option linter.unusedSimpArgs false
set_option linter.unusedVariables false

def RetCon (R : Option Nat) (bl : Nat) (w : World) (e : Ending) (w' : World) : Prop :=
  UpdB bl w w' ∧ ∃ (b : Bool) (z : Int), e = .returned (.bool b) ∧ Blk w' bl 3 #[.int .i64 z] ∧ (R = none ∧ b = true ∨ ∃ r : Nat, R = some r ∧ b = false ∧ z = r)
set_option maxRecDepth 100000 in
theorem kContainsE (l : List KE) (A : Option Addr) (c : Nat) (hall : ∀ x ∈ l, VisOk x) (deep left bl bv bd B : Nat) (w : World) (hd : deep ≤ 31) (hl : left ≤ 256) (hi : kesIn w B A l) (hB : B ≤ bl) (hlv : bl ≠ bv) (hld : bl ≠ bd)
    (hbl : Blk w bl 3 #[.int .i64 left]) (hbv : Blk w bv 154 (visV bl bv)) (hbd : Blk w bd 3 #[.int .i64 ((deep : Int) + 1)]) :
    Calls Try.prog 89 #[.slice A l.length c, .func (.func 90) #[] #[.pointer (some ⟨bv, 0, none⟩), .pointer (some ⟨bd, 0, none⟩)]] w (RetCon (roomL (deep + 1) left l) bl w) := by
  have HC := Lib.hid (kIndexE l A c hall deep left bl bv bd B w hd hl hi hB hlv hld hbl hbv hbd)
  generalize roomL (deep + 1) left l = R at *
  generalize l.length = n at *
  clear hall hi hbl hbv hbd
  go_enter Try.func89, Try.ntmps89
  go_wp2_with (go_at_call 94; (with_reducible refine HC.out.mono ?_); rintro e w1 ⟨hu, i, z, rfl, hb, hR⟩
               have HU := Lib.hid hu
               have HB1 := Lib.hid hb
               have HR := Lib.hid hR
               clear hu hb hR)
  go_ret
  refine ⟨HU.out, _, z, rfl, HB1.out, ?_⟩
  rcases HR.out with ⟨h1, h2⟩ | ⟨r, h1, h2, h3⟩
  · exact .inl ⟨h1, by simpa using h2⟩
  · exact .inr ⟨r, h1, by rw [h2]; rfl, h3⟩
set_option maxRecDepth 100000 in
set_option maxHeartbeats 4000000 in
theorem kVisit (e : KE) : VisOk e := by
  induction e using KE.ind with
  | h e ih =>
    intro deep left bl bv B w hd hl hi hB hlv hbl hbv
    have hlt := hbl.lt
    have hvt := hbv.lt
    obtain ⟨W0, hW0⟩ : ∃ W, (w.alloc (.cells e.cells 99)).alloc (.cells #[.int .i64 ((deep : Int) + 1)] 3) = W := ⟨_, rfl⟩
    have b4 : Blk W0 w.heap.size 99 e.cells := by rw [← hW0]; exact (Blk.new w _ _).alloc _
    have b5 : Blk W0 (w.heap.size + 1) 3 #[.int .i64 ((deep : Int) + 1)] := by rw [← hW0]; simpa using Blk.new (w.alloc (.cells e.cells 99)) 3 #[.int .i64 ((deep : Int) + 1)]
    have K0 : Hid (Below w.heap.size w W0) := Lib.hid (by rw [← hW0]; exact ((Below.refl _ _).alloc (Nat.le_refl _) _).alloc (by simp) _)
    have bl0 := hbl.call K0.out
    have bv0 := hbv.call K0.out
    have HE := roomE_eq deep left e
    have HK := hi.one.1.1
    have HIN := Lib.hid hi
    have HIH := Lib.hid ih
    obtain ⟨W1, hW1⟩ : ∃ W, W0.setCell ⟨bl, 0, none⟩ (.int .i64 ((left : Int) - 1)) = W := ⟨_, rfl⟩
    have U1 : Hid (UpdB bl w W1) := Lib.hid (by rw [← hW1]; exact (UpdB.of_below K0.out).trans (UpdB.set W0 0 _))
    have bl1 : Blk W1 bl 3 #[.int .i64 ((left : Int) - 1)] := by rw [← hW1]; simpa using bl0.set_ 0 (.int .i64 ((left : Int) - 1))
    have bv1 : Blk W1 bv 154 (visV bl bv) := by rw [← hW1]; exact bv0.far (Ne.symm hlv) _
    have b41 : Blk W1 w.heap.size 99 e.cells := by rw [← hW1]; exact b4.far (by simp; omega) _
    have b51 : Blk W1 (w.heap.size + 1) 3 #[.int .i64 ((deep : Int) + 1)] := by rw [← hW1]; exact b5.far (by simp; omega) _
    have HF := Lib.hid (kFields e HK W1)
    simp only [KE.cells] at hW0 b4 b41 HF ⊢
    have c0 := bl0.cell 0
    have f0 := bl0.frozen 0
    have d0 := bl1.cell 0
    have d5 := b51.cell 0
    simp at c0 d0 d5
    have e0 := b41.cell 0
    have e1 := b41.cell 1
    have e2 := b41.cell 2
    have e3 := b41.cell 3
    have e4 := b41.cell 4
    have e5 := b41.cell 5
    simp at e0 e1 e2 e3 e4 e5
    generalize hR : roomE deep left e = R at *
    have b41' := Lib.hid b41
    have HB1 := Lib.hid bl1
    have HBV := Lib.hid bv1
    have HB5 := Lib.hid b51
    have HEE := Lib.hid HE
    clear hR HE ih hi hbl hbv b4 b5 bl0 bv0 bl1 bv1 b41 b51 K0
    by_cases h0 : left = 0
    · have h0I : (left : Int) - 1 < 0 := by omega
      have HH0 := Lib.hid h0
      clear h0
      go_enter Try.func87, Try.ntmps87
      go_wp2_with fail
      go_ret
      exact ⟨U1.out, false, _, rfl, HB1.out, .inl ⟨by rw [HEE.out]; simp [HH0.out], rfl⟩⟩
    · have h0I : ¬ (left : Int) - 1 < 0 := by omega
      by_cases hdp : 32 ≤ deep
      · have hdI : (32 : Int) < (deep : Int) + 1 := by omega
        go_enter Try.func87, Try.ntmps87
        go_wp2_with fail
        go_ret
        exact ⟨U1.out, false, _, rfl, HB1.out, .inl ⟨by rw [HEE.out]; simp [hdp], rfl⟩⟩
      · have hdI : ¬ (32 : Int) < (deep : Int) + 1 := by omega
        cases hfb : fieldsB e with
        | false =>
          rw [hfb] at HF
          have HFB := Lib.hid hfb
          clear hfb
          go_enter Try.func87, Try.ntmps87
          go_wp2_with (go_at_call 88; (with_reducible refine HF.out.mono ?_); rintro e1 w2 ⟨rfl, hb2⟩
                       have K2 := Lib.hid hb2
                       clear hb2)
          go_ret
          exact ⟨U1.out.trans (UpdB.of_below K2.out), false, _, rfl, HB1.out.call K2.out, .inl ⟨by rw [HEE.out, HFB.out]; simp, rfl⟩⟩
        | true =>
          rw [hfb] at HF
          have HRE : Hid (R = roomL (deep + 1) (left - 1) e.l) := Lib.hid (by rw [HEE.out, hfb]; simp [h0, hdp])
          have hleft : (left : Int) - 1 = ((left - 1 : Nat) : Int) := by omega
          have HLF := Lib.hid hleft
          have hdd : ((deep + 1 : Nat) : Int) = (deep : Int) + 1 := by omega
          clear hfb hleft hdd HEE
          have HLE := Lib.hid (U1.out.below hlt)
          go_enter Try.func87, Try.ntmps87
          go_upto_region 4 with (go_at_call 88; (with_reducible refine HF.out.mono ?_); rintro e1 w2 ⟨rfl, hb2⟩
                                 have K2 := Lib.hid hb2
                                 have g5 := (Blk.call b41'.out hb2).cell 5
                                 clear hb2)
          simp at g5
          have hB2 : B ≤ W1.heap.size := by have := U1.out.size; omega
          have hcon := kContainsE e.l e.A e.c HIH.out deep (left - 1) bl bv (w.heap.size + 1) B w2 (by omega) (by omega) ((HIN.out.parts.below (HLE.out.mono hB)).below (K2.out.mono hB2)) hB hlv (by omega) (by rw [← HLF.out]; exact HB1.out.call K2.out) (HBV.out.call K2.out) (HB5.out.call K2.out)
          rw [← HRE.out] at hcon
          have HCon := Lib.hid hcon
          clear hcon hB2
          go_wp2_with (go_at_call 89; (with_reducible refine HCon.out.mono ?_); rintro e3 w3 ⟨hu, b, z, rfl, hb, hR⟩
                       have HU := Lib.hid hu
                       have HB3 := Lib.hid hb
                       have HR := Lib.hid hR
                       clear hu hb hR)
          go_ret
          refine ⟨(U1.out.trans (UpdB.of_below K2.out)).trans HU.out, !b, z, rfl, HB3.out, ?_⟩
          rcases HR.out with ⟨h1, h2⟩ | ⟨r, h1, h2, h3⟩
          · exact .inl ⟨h1, by rw [h2]; rfl⟩
          · exact .inr ⟨r, h1, by rw [h2]; rfl, h3⟩
theorem validE_none {e : KE} (h : roomE 0 256 e = none) : validE e = false := by rw [validE, h]; rfl
theorem validE_some {e : KE} {r : Nat} (h : roomE 0 256 e = some r) : validE e = true := by rw [validE, h]; rfl
set_option maxRecDepth 100000 in
set_option maxHeartbeats 2000000 in
theorem kValid (e : KE) (B : Nat) (w : World) (hi : e.In w B) (hB : B ≤ w.heap.size) : Calls Try.prog 81 #[.agg e.cells] w (RetV (.bool (validE e)) w) := by
  have HIN := Lib.hid hi
  have HN := Lib.hid (fun h => validE_none (e := e) h)
  have HS := Lib.hid (fun r h => validE_some (e := e) (r := r) h)
  obtain ⟨W0, hW0⟩ : ∃ W, ((w.alloc (.cells e.cells 99)).alloc (.cells #[.int .i64 256] 3)).alloc (.cells (visV (w.heap.size + 1) (w.heap.size + 1 + 1)) 154) = W := ⟨_, rfl⟩
  have K0 : Hid (Below w.heap.size w W0) := Lib.hid (by rw [← hW0]; exact (((Below.refl _ _).alloc (Nat.le_refl _) _).alloc (by simp) _).alloc (by simp; omega) _)
  have b3 : Blk W0 w.heap.size 99 e.cells := by rw [← hW0]; exact ((Blk.new w _ _).alloc _).alloc _
  have b4 : Blk W0 (w.heap.size + 1) 3 #[.int .i64 256] := by
    rw [← hW0]
    refine Blk.alloc ?_ _
    simpa using Blk.new (w.alloc (.cells e.cells 99)) 3 #[.int .i64 256]
  have b5 : Blk W0 (w.heap.size + 1 + 1) 154 (visV (w.heap.size + 1) (w.heap.size + 1 + 1)) := by
    rw [← hW0]
    simpa using Blk.new ((w.alloc (.cells e.cells 99)).alloc (.cells #[.int .i64 256] 3)) 154 (visV (w.heap.size + 1) (w.heap.size + 1 + 1))
  have HC := Lib.hid (kVisit e 0 256 (w.heap.size + 1) (w.heap.size + 1 + 1) B W0 (by omega) (by omega) (hi.below (K0.out.mono hB)) (by omega) (by omega) b4 b5)
  rw [show (((0 : Nat) : Int) + 1) = 1 from rfl] at HC
  generalize roomE 0 256 e = R at *
  generalize validE e = V at *
  simp only [KE.cells] at b3
  have c0 := b3.cell 0
  have c1 := b3.cell 1
  have c2 := b3.cell 2
  have c3 := b3.cell 3
  have c4 := b3.cell 4
  have c5 := b3.cell 5
  simp at c0 c1 c2 c3 c4 c5
  have c6 := b5.cell 0
  simp [visV] at c6
  have HZ := Lib.hid b4.lt
  clear hi b3 b4 b5
  simp only [KE.cells, visV] at hW0 HC ⊢
  go_enter Try.func81, Try.ntmps81
  go_wp2_with (go_at_call 87; (with_reducible refine HC.out.mono ?_); rintro e3 w3 ⟨hu, b, z, rfl, hb, hR⟩
               have HU := Lib.hid (hu.below HZ.out)
               have HR := Lib.hid hR
               clear hu hb hR)
  go_ret
  refine ⟨?_, K0.out.trans (HU.out.mono (by omega))⟩
  rcases HR.out with ⟨h1, h2⟩ | ⟨r, h1, h2, h3⟩
  · rw [HN.out h1, h2]; rfl
  · rw [HS.out r h1, h2]; rfl
end Go.Proofs.Ytekamebpjjkifaa

/- Sets of kinds, walked in the program. -/
namespace Go.Proofs.Ytekamebpjjkifaa
open Go.RowKit
set_option linter.unusedSimpArgs false
set_option linter.unusedVariables false

/-- A set of kinds as a number. -/
def setN (a b c : Bool) : Nat := (if a then 2 else 0) + (if b then 4 else 0) + (if c then 8 else 0)
theorem kHas (a b c : Bool) (k : Nat) (hk : k = 1 ∨ k = 2 ∨ k = 3) (w : World) : Calls Try.prog 83 #[.int .u64 (setN a b c : Nat), .int .u8 k] w (RetE (.bool (if k = 1 then a else if k = 2 then b else c)) w) := by
  rcases hk with rfl | rfl | rfl <;> cases a <;> cases b <;> cases c
  all_goals
    simp only [setN]
    go_enter Try.func83, Try.ntmps83
    go_wp2
    go_ret
    exact ⟨rfl, rfl⟩
/-- The kinds of a list. -/
def ofN (l : List Nat) : Nat := setN (decide (1 ∈ l)) (decide (2 ∈ l)) (decide (3 ∈ l))
theorem ofN_snoc (l : List Nat) (k : Nat) : ofN (l ++ [k]) = setN (decide (1 ∈ l) || decide (1 = k)) (decide (2 ∈ l) || decide (2 = k)) (decide (3 ∈ l) || decide (3 = k)) := by
  simp only [ofN, List.mem_append, List.mem_singleton, Bool.decide_or]
theorem or_set (a b c : Bool) : bits .or .u64 ((setN a b c : Nat) : Int) 2 = ((setN true b c : Nat) : Int) ∧ bits .or .u64 ((setN a b c : Nat) : Int) 4 = ((setN a true c : Nat) : Int) ∧ bits .or .u64 ((setN a b c : Nat) : Int) 8 = ((setN a b true : Nat) : Int) := by
  cases a <;> cases b <;> cases c <;> decide +kernel
theorem set_bound (a b c : Bool) : setN a b c ≤ 14 := by cases a <;> cases b <;> cases c <;> decide
def kindsC (l : List Nat) : List Value := l.flatMap fun x => [Value.int .u8 (x : Nat)]
theorem kinds_at {w : World} {B n : Nat} {A : Option Addr} {l : List Nat} (h : Reads w B 1 A n (kindsC l)) (hn : l.length = n) {k : Nat} (hk : k < n) : ∃ b off x, A = some ⟨b, off, none⟩ ∧ b < B ∧ l[k]? = some x ∧ x ∈ l ∧ w.cell? ⟨b, off + k, none⟩ = some (.int .u8 (x : Nat)) := by
  subst hn
  obtain ⟨b, off, x, h1, h2, h3, h4, hc⟩ := row_at (f := fun x => [Value.int .u8 (x : Nat)]) (fun _ => rfl) (by decide) h hk
  have := hc 0 _ rfl
  exact ⟨b, off, x, h1, h2, h3, h4, by simpa using this⟩
set_option maxRecDepth 100000 in
set_option maxHeartbeats 2000000 in
theorem kOf (l : List Nat) (hl : ∀ x ∈ l, x = 1 ∨ x = 2 ∨ x = 3) (hn : l.length ≤ 1000) (A : Option Addr) (c : Nat) (B : Nat) (w : World) (hr : Reads w B 1 A l.length (kindsC l)) :
    Calls Try.prog 92 #[.slice A l.length c] w (RetE (.int .u64 (ofN l : Nat)) w) := by
  have HR := Lib.hid hr
  have HL := Lib.hid hl
  have HT := Lib.hid (fun (k : Nat) (x : Nat) (h : l[k]? = some x) => show ofN (l.take (k + 1)) = setN (decide (1 ∈ l.take k) || decide (1 = x)) (decide (2 ∈ l.take k) || decide (2 = x)) (decide (3 ∈ l.take k) || decide (3 = x)) by rw [List.take_add_one, h, Option.toList_some, ofN_snoc])
  obtain ⟨n, hnn⟩ : ∃ n, l.length = n := ⟨_, rfl⟩
  have HN := Lib.hid hnn
  rw [hnn] at HR hn ⊢
  clear hr hl hnn
  go_enter Try.func92, Try.ntmps92
  go_wp2
  go_loop [2, 7] (fun s i => ∃ k : Nat, k ≤ n ∧ i = .int .i64 k ∧ s = .int .u64 (ofN (l.take k) : Nat)) (fun _ i => n - (intOf i).toNat)
  case atStart => exact ⟨0, Nat.zero_le _, rfl, rfl⟩
  case round =>
    obtain ⟨k, hk, rfl, rfl⟩ := hrel
    by_cases hlt : k < n
    · have hltI : (k : Int) < n := by omega
      obtain ⟨b, off, x, rfl, hb, hx, hm, c0⟩ := kinds_at HR.out HN.out hlt
      have HX := Lib.hid (HT.out k x hx)
      have hb14 := set_bound (decide (1 ∈ l.take k)) (decide (2 ∈ l.take k)) (decide (3 ∈ l.take k))
      have ho := or_set (decide (1 ∈ l.take k)) (decide (2 ∈ l.take k)) (decide (3 ∈ l.take k))
      unfold ofN at *
      generalize decide (1 ∈ l.take k) = a1 at *
      generalize decide (2 ∈ l.take k) = a2 at *
      generalize decide (3 ∈ l.take k) = a3 at *
      obtain ⟨o1, o2, o3⟩ := ho
      have hx3 := HL.out x hm
      clear hx hm
      rcases hx3 with rfl | rfl | rfl
      all_goals
        go_wp2
        go_round
        case rel => exact ⟨k + 1, by omega, by go_num, by rw [HX.out]; simp⟩
        case measure => simp [intOf]; omega
    · have hltI : ¬ (k : Int) < n := by omega
      obtain rfl : n = k := by omega
      have htk : l.take n = l := List.take_of_length_le (by rw [HN.out]; omega)
      rw [htk]
      go_wp2
      go_ret
      exact ⟨rfl, rfl⟩
theorem RetE.ret {v u : Value} {w w1 w' : World} {e : Ending} (h : RetE v w1 e w') (hv : v = u) (hb : Below w.heap.size w w1) : RetV u w e w' := by
  obtain ⟨rfl, rfl⟩ := h
  exact ⟨by rw [hv], hb⟩
set_option maxHeartbeats 2000000 in
theorem kWhen (k : Nat) (hk : k = 1 ∨ k = 2 ∨ k = 3) (b : Bool) (w : World) : Calls Try.prog 91 #[.bool b, .int .u8 k] w (RetV (.int .u64 (setN (b && decide (1 = k)) (b && decide (2 = k)) (b && decide (3 = k)) : Nat)) w) := by
  cases b with
  | false =>
    go_enter Try.func91, Try.ntmps91
    go_wp2
    go_ret
    exact ⟨by simp [setN], Below.refl _ _⟩
  | true =>
    have hb0 : Below w.heap.size w (w.alloc (.cells #[.int .u8 k] 25)) := (Below.refl _ _).alloc (Nat.le_refl _) _
    have K := Lib.hid hb0
    have HC := Lib.hid (kOf [k] (by intro x hx; simp at hx; subst hx; exact hk) (by simp) (some ⟨w.heap.size, 0, none⟩) 1 (w.heap.size + 1) (w.alloc (.cells #[.int .u8 k] 25)) ⟨rfl, fun _ => ⟨_, rfl, by simp, fun j u hu => by
      have := (Blk.new w 25 #[.int .u8 k]).cell j
      have hadd : (⟨w.heap.size, 0, none⟩ : Addr).add j = ⟨w.heap.size, j, none⟩ := by unfold Addr.add; split <;> simp_all
      rw [hadd, this]
      simpa [kindsC] using hu⟩⟩)
    have HV := Lib.hid (show ofN [k] = setN (true && decide (1 = k)) (true && decide (2 = k)) (true && decide (3 = k)) by simp [ofN])
    clear hb0 hk
    simp only [List.length_singleton] at HC
    go_enter Try.func91, Try.ntmps91
    go_wp2_with (go_at_call 92; (with_reducible refine HC.out.mono ?_); rintro e w1 ⟨rfl, rfl⟩)
    go_ret
    exact ⟨by rw [← HV.out]; rfl, K.out⟩
end Go.Proofs.Ytekamebpjjkifaa

/- The kinds of a number, walked in the program. -/
namespace Go.Proofs.Ytekamebpjjkifaa
open Go.RowKit
set_option linter.unusedSimpArgs false
set_option linter.unusedVariables false

theorem reads_lit (w : World) (T : TypeId) (cs : Array Value) (n : Nat) (xs : List Value) (hx : cs.toList = xs) (hn : xs.length = n) : Reads (w.alloc (.cells cs T)) (w.heap.size + 1) 1 (some ⟨w.heap.size, 0, none⟩) n xs := by
  subst hx
  refine ⟨by simpa using hn, fun _ => ⟨_, rfl, by simp, fun j u hu => ?_⟩⟩
  have := (Blk.new w T cs).cell j
  have hadd : (⟨w.heap.size, 0, none⟩ : Addr).add j = ⟨w.heap.size, j, none⟩ := by unfold Addr.add; split <;> simp_all
  rw [hadd, this]
  simpa using hu
/-- The kinds that a number fits. -/
def numN (n : Int) : Nat := setN true (decide (0 ≤ n ∧ n ≤ 255)) (decide (n = 0 ∨ n = 1))
set_option maxRecDepth 100000 in
set_option maxHeartbeats 2000000 in
theorem kNumber (n : Int) (hn : i32ok n) (w : World) : Calls Try.prog 93 #[.int .i32 n] w (RetV (.int .u64 (numN n : Nat)) w) := by
  obtain ⟨h1, h2⟩ := hn
  have HC3 := Lib.hid (kOf [1, 2, 3] (by simp) (by simp) (some ⟨w.heap.size, 0, none⟩) 3 (w.heap.size + 1) (w.alloc (.cells #[.int .u8 1, .int .u8 2, .int .u8 3] 25)) (reads_lit w _ _ 3 _ rfl rfl))
  have HC2 := Lib.hid (kOf [1, 2] (by simp) (by simp) (some ⟨w.heap.size, 0, none⟩) 2 (w.heap.size + 1) (w.alloc (.cells #[.int .u8 1, .int .u8 2] 25)) (reads_lit w _ _ 2 _ rfl rfl))
  have HC1 := Lib.hid (kOf [1] (by simp) (by simp) (some ⟨w.heap.size, 0, none⟩) 1 (w.heap.size + 1) (w.alloc (.cells #[.int .u8 1] 25)) (reads_lit w _ _ 1 _ rfl rfl))
  have K3 := Lib.hid ((Below.refl w.heap.size w).alloc (Nat.le_refl _) (.cells #[.int .u8 1, .int .u8 2, .int .u8 3] 25))
  have K2 := Lib.hid ((Below.refl w.heap.size w).alloc (Nat.le_refl _) (.cells #[.int .u8 1, .int .u8 2] 25))
  have K1 := Lib.hid ((Below.refl w.heap.size w).alloc (Nat.le_refl _) (.cells #[.int .u8 1] 25))
  simp only [List.length_cons, List.length_nil, Nat.zero_add, Nat.reduceAdd] at HC3 HC2 HC1
  by_cases hb : 0 ≤ n ∧ n ≤ 1
  · have e1 : n / 2 = 0 := by omega
    have HV := Lib.hid (show numN n = ofN [1, 2, 3] by rw [numN, decide_eq_true (by omega), decide_eq_true (by omega)]; simp [ofN])
    clear HC2 HC1
    go_enter Try.func93, Try.ntmps93
    go_wp2_with (go_at_call 92; (with_reducible refine HC3.out.mono ?_); rintro e w1 ⟨rfl, rfl⟩)
    go_ret
    exact ⟨by rw [HV.out]; rfl, K3.out⟩
  · have e1 : ¬ n / 2 = 0 := by omega
    by_cases hy : 0 ≤ n ∧ n ≤ 255
    · have e2 : n / 256 = 0 := by omega
      have HV := Lib.hid (show numN n = ofN [1, 2] by rw [numN, decide_eq_true (by omega), decide_eq_false (by omega)]; simp [ofN])
      clear HC3 HC1
      go_enter Try.func93, Try.ntmps93
      go_wp2_with (go_at_call 92; (with_reducible refine HC2.out.mono ?_); rintro e w1 ⟨rfl, rfl⟩)
      go_ret
      exact ⟨by rw [HV.out]; rfl, K2.out⟩
    · have e2 : ¬ n / 256 = 0 := by omega
      have HV := Lib.hid (show numN n = ofN [1] by rw [numN, decide_eq_false (by omega), decide_eq_false (by omega)]; simp [ofN])
      clear HC3 HC2
      go_enter Try.func93, Try.ntmps93
      go_wp2_with (go_at_call 92; (with_reducible refine HC1.out.mono ?_); rintro e w1 ⟨rfl, rfl⟩)
      go_ret
      exact ⟨by rw [HV.out]; rfl, K1.out⟩
end Go.Proofs.Ytekamebpjjkifaa

/- Rows of a kernel, element by element; the checker's block; the set of kinds that an expression fits. -/
namespace Go.Proofs.Ytekamebpjjkifaa
open Go.RowKit
set_option linter.unusedSimpArgs false
set_option linter.unusedVariables false

/-- A variable of a row. -/
theorem vars_at {w : World} {B n : Nat} {A : Option Addr} {vs : List KVar} (h : Reads w B 2 A n (varsC vs)) (hn : vs.length = n) {k : Nat} (hk : k < n) :
    ∃ b off x, A = some ⟨b, off, none⟩ ∧ b < B ∧ vs[k]? = some x ∧ x ∈ vs ∧ w.cell? ⟨b, off + k * 2, none⟩ = some (.int .u8 x.kind) ∧ w.cell? ⟨b, off + k * 2 + 1, none⟩ = some (.int .i64 x.dim) := by
  subst hn
  obtain ⟨b, off, x, h1, h2, h3, h4, hc⟩ := row_at (f := fun x : KVar => x.cells.toList) (fun _ => rfl) (by decide) h hk
  exact ⟨b, off, x, h1, h2, h3, h4, hc 0 _ rfl, hc 1 _ rfl⟩
theorem hosts_at {w : World} {B n : Nat} {A : Option Addr} {l : List Nat} (h : Reads w B 1 A n (hostsC l)) (hn : l.length = n) {k : Nat} (hk : k < n) :
    ∃ b off x, A = some ⟨b, off, none⟩ ∧ b < B ∧ l[k]? = some x ∧ x ∈ l ∧ w.cell? ⟨b, off + k, none⟩ = some (.int .u8 (x : Nat)) := by
  subst hn
  obtain ⟨b, off, x, h1, h2, h3, h4, hc⟩ := row_at (f := fun x : Nat => [Value.int .u8 (x : Nat)]) (fun _ => rfl) (by decide) h hk
  have := hc 0 _ rfl
  exact ⟨b, off, x, h1, h2, h3, h4, by simpa using this⟩
theorem ints_at {w : World} {B n : Nat} {A : Option Addr} {l : List Int} (h : Reads w B 1 A n (intsC l)) (hn : l.length = n) {k : Nat} (hk : k < n) :
    ∃ b off x, A = some ⟨b, off, none⟩ ∧ b < B ∧ l[k]? = some x ∧ x ∈ l ∧ w.cell? ⟨b, off + k, none⟩ = some (.int .i64 x) := by
  subst hn
  obtain ⟨b, off, x, h1, h2, h3, h4, hc⟩ := row_at (f := fun x : Int => [Value.int .i64 x]) (fun _ => rfl) (by decide) h hk
  have := hc 0 _ rfl
  exact ⟨b, off, x, h1, h2, h3, h4, by simpa using this⟩
/-- A place of a row. -/
theorem kpls_at {w : World} {B n : Nat} {A : Option Addr} {l : List KPl} (h : kplsIn w B A l) (hn : l.length = n) {k : Nat} (hk : k < n) :
    ∃ b off x, A = some ⟨b, off, none⟩ ∧ b < B ∧ l[k]? = some x ∧ x.In w B ∧ w.cell? ⟨b, off + k * 2, none⟩ = some (.int .i64 x.v) ∧ w.cell? ⟨b, off + k * 2 + 1, none⟩ = some (.slice x.A x.l.length x.c) := by
  subst hn
  obtain ⟨b, off, x, h1, h2, h3, h4, hc⟩ := row_at KPl.cells_len (by decide) h.2.1 hk
  exact ⟨b, off, x, h1, h2, h3, h.2.2 x h4, hc 0 _ rfl, hc 1 _ rfl⟩
/-- A process of a row. -/
theorem kps_at {w : World} {B n : Nat} {A : Option Addr} {l : List KP} (h : Reads w B 8 A n (kpsC l)) (hn : l.length = n) {k : Nat} (hk : k < n) :
    ∃ b off x, A = some ⟨b, off, none⟩ ∧ b < B ∧ l[k]? = some x ∧ x ∈ l ∧ w.cell? ⟨b, off + k * 8, none⟩ = some (.int .u8 x.kind) ∧ w.cell? ⟨b, off + k * 8 + 1, none⟩ = some (.int .i64 x.c) ∧ w.cell? ⟨b, off + k * 8 + 2, none⟩ = some (.int .i64 x.v) ∧ w.cell? ⟨b, off + k * 8 + 3, none⟩ = some (.int .u8 x.item) ∧
      w.cell? ⟨b, off + k * 8 + 4, none⟩ = some (.slice x.At x.tos.length x.ct) ∧ w.cell? ⟨b, off + k * 8 + 5, none⟩ = some (.slice x.Ae x.e.length x.ce) ∧ w.cell? ⟨b, off + k * 8 + 6, none⟩ = some (.slice x.Ag x.g.length x.cg) ∧ w.cell? ⟨b, off + k * 8 + 7, none⟩ = some (.slice x.Al x.l.length x.cl) := by
  subst hn
  obtain ⟨b, off, x, h1, h2, h3, h4, hc⟩ := row_at KP.cells_len (by decide) h hk
  exact ⟨b, off, x, h1, h2, h3, h4, hc 0 _ rfl, hc 1 _ rfl, hc 2 _ rfl, hc 3 _ rfl, hc 4 _ rfl, hc 5 _ rfl, hc 6 _ rfl, hc 7 _ rfl⟩
/-- What the cells of a guard of a row are. -/
structure GAt (w : World) (b o : Nat) (g : KG) : Prop where
  c0 : w.cell? ⟨b, o, none⟩ = some (.int .u8 g.kind)
  c1 : w.cell? ⟨b, o + 1, none⟩ = some (.int .u8 g.cond.kind)
  c2 : w.cell? ⟨b, o + 2, none⟩ = some (.int .u8 g.cond.oper)
  c3 : w.cell? ⟨b, o + 3, none⟩ = some (.int .u8 g.cond.tk)
  c4 : w.cell? ⟨b, o + 4, none⟩ = some (.int .i32 g.cond.n)
  c5 : w.cell? ⟨b, o + 5, none⟩ = some (.int .i64 g.cond.v)
  c6 : w.cell? ⟨b, o + 6, none⟩ = some (.slice g.cond.A g.cond.l.length g.cond.c)
  c7 : w.cell? ⟨b, o + 7, none⟩ = some (.int .i64 g.c)
  c8 : w.cell? ⟨b, o + 8, none⟩ = some (.int .u8 g.item)
  c9 : w.cell? ⟨b, o + 9, none⟩ = some (.int .i64 g.dst.v)
  c10 : w.cell? ⟨b, o + 10, none⟩ = some (.slice g.dst.A g.dst.l.length g.dst.c)
  c11 : w.cell? ⟨b, o + 11, none⟩ = some (.int .u8 g.time.kind)
  c12 : w.cell? ⟨b, o + 12, none⟩ = some (.int .u8 g.time.oper)
  c13 : w.cell? ⟨b, o + 13, none⟩ = some (.int .u8 g.time.tk)
  c14 : w.cell? ⟨b, o + 14, none⟩ = some (.int .i32 g.time.n)
  c15 : w.cell? ⟨b, o + 15, none⟩ = some (.int .i64 g.time.v)
  c16 : w.cell? ⟨b, o + 16, none⟩ = some (.slice g.time.A g.time.l.length g.time.c)
  c17 : w.cell? ⟨b, o + 17, none⟩ = some (.slice g.Ab g.body.length g.cb)
/-- A guard of a row. -/
theorem kgs_at {w : World} {B n : Nat} {A : Option Addr} {l : List KG} (h : Reads w B 18 A n (kgsC l)) (hn : l.length = n) {k : Nat} (hk : k < n) :
    ∃ b off x, A = some ⟨b, off, none⟩ ∧ b < B ∧ l[k]? = some x ∧ x ∈ l ∧ GAt w b (off + k * 18) x := by
  subst hn
  obtain ⟨b, off, x, h1, h2, h3, h4, hc⟩ := row_at KG.row_len (by decide) h hk
  exact ⟨b, off, x, h1, h2, h3, h4, hc 0 _ rfl, hc 1 _ rfl, hc 2 _ rfl, hc 3 _ rfl, hc 4 _ rfl, hc 5 _ rfl, hc 6 _ rfl, hc 7 _ rfl, hc 8 _ rfl, hc 9 _ rfl, hc 10 _ rfl, hc 11 _ rfl, hc 12 _ rfl, hc 13 _ rfl, hc 14 _ rfl, hc 15 _ rfl, hc 16 _ rfl, hc 17 _ rfl⟩
/-- What is known of a kernel whose checker is at work. -/
structure KOk (k : KK) : Prop where
  nv : k.vars.length ≤ 256
  nc : 2 ≤ k.chans.length ∧ k.chans.length ≤ 64
  vs : ∀ x ∈ k.vars, primB x.kind = true ∧ 0 ≤ x.dim ∧ x.dim ≤ 64
theorem primB_cases {k : Nat} (h : primB k = true) : k = 1 ∨ k = 2 ∨ k = 3 := by simp [primB] at h; omega
/-- The checker's block, and the kernel that it checks. -/
structure Chk (w : World) (B bc : Nat) (k : KK) (n : Int) : Prop where
  blk : Blk w bc 108 (k.row ++ [Value.int .i64 n]).toArray
  inn : k.In w B
  le : B ≤ bc
  ok : KOk k
section
variable {w w' : World} {B bc : Nat} {k : KK} {n : Int}
theorem Chk.lt (h : Chk w B bc k n) : bc < w.heap.size := h.blk.lt
theorem Chk.leB (h : Chk w B bc k n) : B ≤ w.heap.size := Nat.le_trans h.le (Nat.le_of_lt h.lt)
theorem Chk.call (h : Chk w B bc k n) (hb : Below w.heap.size w w') : Chk w' B bc k n := ⟨h.blk.call hb, h.inn.below (hb.mono h.leB), h.le, h.ok⟩
theorem Chk.c0 (h : Chk w B bc k n) : w.cell? ⟨bc, 0, none⟩ = some (.slice k.Av k.vars.length k.cv) := by have := h.blk.cell 0; simpa [KK.row] using this
theorem Chk.c1 (h : Chk w B bc k n) : w.cell? ⟨bc, 1, none⟩ = some (.slice k.Ac k.chans.length k.cc) := by have := h.blk.cell 1; simpa [KK.row] using this
theorem Chk.c11 (h : Chk w B bc k n) : w.cell? ⟨bc, 11, none⟩ = some (.int .i64 n) := by have := h.blk.cell 11; simpa [KK.row, KP.cells] using this
end
/-- The set of the kinds that a valid expression fits. -/
def kindsN (vs : List KVar) (e : KE) : Nat := setN (fitsB vs e 1) (fitsB vs e 2) (fitsB vs e 3)
/-- The kinds that all of some expressions fit. -/
def bothI (vs : List KVar) (l : List KE) : Int := if l = [] then 18446744073709551615 else ((setN (l.all (fitsB vs · 1)) (l.all (fitsB vs · 2)) (l.all (fitsB vs · 3)) : Nat) : Int)
theorem and_set (a b c a' b' c' : Bool) : bits .and .u64 ((setN a b c : Nat) : Int) ((setN a' b' c' : Nat) : Int) = ((setN (a && a') (b && b') (c && c') : Nat) : Int) := by
  cases a <;> cases b <;> cases c <;> cases a' <;> cases b' <;> cases c' <;> decide +kernel
theorem and_all (a b c : Bool) : bits .and .u64 18446744073709551615 ((setN a b c : Nat) : Int) = ((setN a b c : Nat) : Int) := by
  cases a <;> cases b <;> cases c <;> decide +kernel
theorem bothI_nil (vs : List KVar) : bothI vs [] = 18446744073709551615 := rfl
theorem bothI_snoc (vs : List KVar) (l : List KE) (e : KE) : bits .and .u64 (bothI vs l) (kindsN vs e : Nat) = bothI vs (l ++ [e]) := by
  unfold bothI kindsN
  by_cases h : l = []
  · subst h
    rw [if_pos rfl, and_all, if_neg (by simp)]
    simp
  · rw [if_neg h, and_set, if_neg (by simp)]
    simp [List.all_append]
theorem bothI_take (vs : List KVar) {l : List KE} {k : Nat} {e : KE} (h : l[k]? = some e) : bits .and .u64 (bothI vs (l.take k)) (kindsN vs e : Nat) = bothI vs (l.take (k + 1)) := by
  rw [bothI_snoc, List.take_add_one, h, Option.toList_some]
theorem bothI_range (vs : List KVar) (l : List KE) : 0 ≤ bothI vs l ∧ bothI vs l ≤ 18446744073709551615 := by
  unfold bothI
  split
  · omega
  · have := set_bound (l.all (fitsB vs · 1)) (l.all (fitsB vs · 2)) (l.all (fitsB vs · 3))
    omega
end Go.Proofs.Ytekamebpjjkifaa

/- The kinds that an expression fits, by its kind and operator, in plain words. -/
namespace Go.Proofs.Ytekamebpjjkifaa
open Go.RowKit
set_option linter.unusedSimpArgs false
set_option linter.unusedVariables false

section
variable {vs : List KVar} {o t c : Nat} {n v : Int} {A : Option Addr} {l : List KE}
theorem kindsN_num : kindsN vs ⟨1, o, t, n, v, A, c, l⟩ = numN n := by
  simp [kindsN, fitsB, numN]
theorem kind_set (b : Bool) (k : Nat) : setN (b && (k == 1)) (b && (k == 2)) (b && (k == 3)) = setN (b && decide (1 = k)) (b && decide (2 = k)) (b && decide (3 = k)) := by
  have e : ∀ q : Nat, (k == q) = decide (q = k) := fun q => by rw [Bool.eq_iff_iff, beq_iff_eq, decide_eq_true_eq]; exact eq_comm
  rw [e, e, e]
theorem kindsN_var {x : KVar} (h : vs[v.toNat]? = some x) : kindsN vs ⟨2, o, t, n, v, A, c, l⟩ = setN (decide (x.dim = 0) && decide (1 = x.kind)) (decide (x.dim = 0) && decide (2 = x.kind)) (decide (x.dim = 0) && decide (3 = x.kind)) := by
  rw [← kind_set]
  simp [kindsN, fitsB, h]
theorem kindsN_var0 (h : vs[v.toNat]? = none) : kindsN vs ⟨2, o, t, n, v, A, c, l⟩ = 0 := by
  simp [kindsN, fitsB, h, setN]
theorem kindsN_elem {x : KVar} {y : KE} (h : vs[v.toNat]? = some x) : kindsN vs ⟨3, o, t, n, v, A, c, [y]⟩ =
    setN ((decide (0 < x.dim) && fitsB vs y 1) && decide (1 = x.kind)) ((decide (0 < x.dim) && fitsB vs y 1) && decide (2 = x.kind)) ((decide (0 < x.dim) && fitsB vs y 1) && decide (3 = x.kind)) := by
  rw [← kind_set]
  simp only [kindsN, fitsB, h, fitsA]
  congr 1 <;> (rw [Bool.and_assoc, Bool.and_assoc, Bool.and_comm (fitsB vs y 1)])
theorem kindsN_elem0 (h : vs[v.toNat]? = none) : kindsN vs ⟨3, o, t, n, v, A, c, l⟩ = 0 := by
  simp [kindsN, fitsB, h, setN]
theorem kindsN_conv {y : KE} : kindsN vs ⟨6, o, t, n, v, A, c, [y]⟩ =
    setN ((fitsB vs y 1 || fitsB vs y 2 || fitsB vs y 3) && decide (1 = t)) ((fitsB vs y 1 || fitsB vs y 2 || fitsB vs y 3) && decide (2 = t)) ((fitsB vs y 1 || fitsB vs y 2 || fitsB vs y 3) && decide (3 = t)) := by
  rw [← kind_set]
  simp only [kindsN, fitsB, fitsA]
  congr 1 <;> (rw [Bool.and_comm])
/-- What an operator makes of the kinds that all its operands fit. -/
def operN (o : Nat) (p1 p2 p3 : Bool) : Nat :=
  if o = 14 ∨ o = 15 then setN false false (p1 || p2 || p3) else if o = 16 ∨ o = 17 ∨ o = 18 ∨ o = 19 then setN false false (p1 || p2) else if o = 20 ∨ o = 21 ∨ o = 26 then setN false false p3
  else if o = 22 then setN false false p1 else setN p1 false false
theorem kindsN_mon {y : KE} (h1 : 23 ≤ o) (h2 : o ≤ 26) : kindsN vs ⟨4, o, t, n, v, A, c, [y]⟩ = operN o (fitsB vs y 1) (fitsB vs y 2) (fitsB vs y 3) := by
  obtain rfl | rfl | rfl | rfl : o = 23 ∨ o = 24 ∨ o = 25 ∨ o = 26 := by omega
  all_goals simp [kindsN, fitsB, fitsA, operN]
theorem kindsN_dy {y z : KE} (h1 : 1 ≤ o) (h2 : o ≤ 22) : kindsN vs ⟨5, o, t, n, v, A, c, [y, z]⟩ = operN o (fitsB vs y 1 && fitsB vs z 1) (fitsB vs y 2 && fitsB vs z 2) (fitsB vs y 3 && fitsB vs z 3) := by
  by_cases h13 : o ≤ 13
  · have e : ¬ (o = 14 ∨ o = 15) ∧ ¬ (o = 16 ∨ o = 17 ∨ o = 18 ∨ o = 19) ∧ ¬ (o = 20 ∨ o = 21 ∨ o = 26) ∧ ¬ o = 22 := by omega
    rw [operN, if_neg e.1, if_neg e.2.1, if_neg e.2.2.1, if_neg e.2.2.2]
    simp [kindsN, fitsB, fitsA, h13]
  · obtain rfl | rfl | rfl | rfl | rfl | rfl | rfl | rfl | rfl : o = 14 ∨ o = 15 ∨ o = 16 ∨ o = 17 ∨ o = 18 ∨ o = 19 ∨ o = 20 ∨ o = 21 ∨ o = 22 := by omega
    all_goals simp [kindsN, fitsB, fitsA, operN]
theorem bothI_one (y : KE) : bothI vs [y] = ((setN (fitsB vs y 1) (fitsB vs y 2) (fitsB vs y 3) : Nat) : Int) := by simp [bothI]
theorem bothI_two (y z : KE) : bothI vs [y, z] = ((setN (fitsB vs y 1 && fitsB vs z 1) (fitsB vs y 2 && fitsB vs z 2) (fitsB vs y 3 && fitsB vs z 3) : Nat) : Int) := by simp [bothI]
theorem setN_none (p1 p2 p3 : Bool) : (((setN p1 p2 p3 : Nat) : Int) == 0) = !(p1 || p2 || p3) := by cases p1 <;> cases p2 <;> cases p3 <;> rfl
end
theorem len_one {α : Type} {l : List α} (h : l.length = 1) : ∃ y, l = [y] := by
  match l, h with
  | [y], _ => exact ⟨y, rfl⟩
theorem len_two {α : Type} {l : List α} (h : l.length = 2) : ∃ y z, l = [y, z] := by
  match l, h with
  | [y, z], _ => exact ⟨y, z, rfl⟩
theorem len_zero {α : Type} {l : List α} (h : l.length = 0) : l = [] := List.length_eq_zero_iff.1 h
end Go.Proofs.Ytekamebpjjkifaa

/- A region that draws its order, whose operations only read and whose callees leave what lay: walked once, in the order of the text. -/
namespace Go.Proofs.Ytekamebpjjkifaa
open Go.RowKit
set_option linter.unusedVariables false
set_option linter.unusedSimpArgs false

/-- The worlds that a world may become where what lies below its end stays. -/
theorem fam_below (W : World) : ∃ (ι : Type) (F : ι → World) (i0 : ι), F i0 = W.drew ∧ (∀ i, Below W.heap.size W (F i)) ∧ (∀ i w', Below (F i).heap.size (F i) w' → ∃ j, w' = F j) :=
  ⟨{ w' : World // Below W.heap.size W w' }, Subtype.val, ⟨W.drew, (Below.refl _ _).drew⟩, rfl, fun i => i.2, fun i w' h => ⟨⟨w', i.2.trans (h.mono i.2.size)⟩, rfl⟩⟩
theorem wp_region_quiet_fam {P : Program} {ι : Type} (F : ι → World) (i0 : ι) {id : Nat} {Q : Exit → Act → World → Prop} {a : Act} {w : World} {l : List Oper} (h0 : F i0 = w.drew) (hm : P.follows .mixedOrders = true) (hB : Region.lexB .any l.toArray = true)
    (h : wpQuiet P l.toArray (fun w' => ∃ i, w' = F i) (fun a' => ∀ i, Q .normal a' (F i)) l a) : (Code.region id l.toArray true).wp P Q a w := by
  refine wp_region_quiet (C := fun w' => ∃ i, w' = F i) hm hB ⟨i0, h0.symm⟩ ?_
  have e : (fun a' : Act => ∀ w', (∃ i, w' = F i) → Q .normal a' w') = fun a' => ∀ i, Q .normal a' (F i) := by
    funext a'
    exact propext ⟨fun h i => h _ ⟨i, rfl⟩, fun h w' ⟨i, hi⟩ => hi ▸ h i⟩
  rw [e]
  simpa using h
end Go.Proofs.Ytekamebpjjkifaa
