/- Texts that belong together, joined: what each one holds is told ahead of it. -/
import Derived.Test.YtekamebpjjkifaaHK36
import Derived.RangeFuncRecord
import Derived.Test.YtekamebpjjkifaaHK2
import Derived.RangeFuncNested
import Derived.RangeFuncBound
import Derived.RangeFuncCalls
import Derived.RangeFuncLeaves
import Derived.OwnWalkIn
import Derived.TacticsInMore
import Derived.LoopNIn
import Derived.LoopIn
import Derived.Shelf.Abstract
import Derived.Sort.LoopGhostIn
/- walks -/
namespace Go.Proofs.Ytekamebpjjkifaa
open Go.RowKit
set_option linter.unusedVariables false
set_option linter.unusedSimpArgs false

def icells (l : List Int) : List Value := l.map (.int .i64)
theorem icells_get {l : List Int} {k : Nat} {x : Int} (h : l[k]? = some x) : (icells l)[k]? = some (.int .i64 x) := by simp [icells, h]

theorem sameL_no {xs ys : List Int} {k : Nat} {x y : Int} (hx : xs[k]? = some x) (hy : ys[k]? = some y) (h : x ≠ y) : decide (xs = ys) = false := by
  simp only [decide_eq_false_iff_not]
  rintro rfl
  rw [hx] at hy; injection hy with hy; exact h hy
theorem sameL_len {xs ys : List Int} (h : xs.length ≠ ys.length) : decide (xs = ys) = false := by
  simp only [decide_eq_false_iff_not]; rintro rfl; exact h rfl

end Go.Proofs.Ytekamebpjjkifaa

/- walks -/
namespace Go.Proofs.Ytekamebpjjkifaa
open Go.RowKit
set_option linter.unusedVariables false
set_option linter.unusedSimpArgs false

def upOf (ws : List Wire) (hn hl node : Int) : Pt := ((orderOf ws hn hl).find? (fun p => p.1 == node)).getD (0, 0)
def ptV (p : Pt) : Value := .agg #[.int .i64 p.1, .int .i64 p.2]

theorem find_take {l : List Pt} {node : Int} {k : Nat} {p : Pt} (hp : l[k]? = some p) (h : p.1 = node) (hn : (l.take k).find? (fun p => p.1 == node) = none) : l.find? (fun p => p.1 == node) = some p := by
  obtain ⟨hk, rfl⟩ := List.getElem?_eq_some_iff.1 hp
  have e : l.find? (fun p => p.1 == node) = (l.take k ++ l[k] :: l.drop (k + 1)).find? (fun p => p.1 == node) := by congr 1; rw [← List.drop_eq_getElem_cons hk, List.take_append_drop]
  rw [e, List.find?_append, hn, List.find?_cons_of_pos (by simp [h])]
  rfl
theorem find_take_succ {l : List Pt} {node : Int} {k : Nat} {p : Pt} (hp : l[k]? = some p) (h : p.1 ≠ node) (hn : (l.take k).find? (fun p => p.1 == node) = none) : (l.take (k + 1)).find? (fun p => p.1 == node) = none := by
  obtain ⟨hk, rfl⟩ := List.getElem?_eq_some_iff.1 hp
  rw [List.take_succ_eq_append_getElem hk, List.find?_append, hn]
  simp [h]

end Go.Proofs.Ytekamebpjjkifaa

/- walks -/
namespace Go.Proofs.Ytekamebpjjkifaa
open Go.RowKit
set_option linter.unusedVariables false
set_option linter.unusedSimpArgs false

def okAt (N : Int) (l : List Pt) (i : Nat) : Bool := match l[i]? with
  | some p => existsB N p.1 p.2 && (l.take i).all (fun q => !portEq q.1 q.2 p.1 p.2)
  | none => true
def portsOk (N : Int) (l : List Pt) : Bool := (List.range l.length).all (okAt N l)
def diffAll (ws : List Wire) : Bool := ws.all (fun x => x.a != x.c)
def mayB (N : Int) (ws : List Wire) (hn hl : Int) : Bool :=
  decide (1 ≤ N) && decide (N ≤ 8) && decide (ws.length ≤ 32) && portsOk N ((hn, hl) :: portsOf ws) && diffAll ws && decide (((orderOf ws hn hl).length : Int) = N)

theorem may_low {N : Int} {ws : List Wire} {hn hl : Int} (h : N < 1) : mayB N ws hn hl = false := by simp [mayB]; omega
theorem may_high {N : Int} {ws : List Wire} {hn hl : Int} (h : 8 < N) : mayB N ws hn hl = false := by simp [mayB]; omega
theorem may_many {N : Int} {ws : List Wire} {hn hl : Int} (h : 32 < ws.length) : mayB N ws hn hl = false := by simp [mayB]; omega
theorem may_port {N : Int} {ws : List Wire} {hn hl : Int} {l : List Pt} (hl' : (hn, hl) :: portsOf ws = l) {i : Nat} (h : i < l.length) (ho : okAt N l i = false) : mayB N ws hn hl = false := by
  have : portsOk N l = false := by
    simp only [portsOk, List.all_eq_false]
    exact ⟨i, by simpa using h, by simpa using ho⟩
  rw [mayB, hl', this]; simp
theorem may_diff {N : Int} {ws : List Wire} {hn hl : Int} {k : Nat} {x : Wire} (hx : ws[k]? = some x) (h : x.a = x.c) : mayB N ws hn hl = false := by
  have : diffAll ws = false := by
    simp only [diffAll, List.all_eq_false]
    exact ⟨x, List.mem_of_getElem? hx, by simp [h]⟩
  rw [mayB, this]; simp
theorem portsOk_of {N : Int} {l : List Pt} (h : ∀ j, j < l.length → okAt N l j = true) : portsOk N l = true := by
  simp only [portsOk, List.all_eq_true]
  exact fun j hj => h j (by simpa using hj)
theorem portsOk_at {N : Int} {l : List Pt} (h : portsOk N l = true) : ∀ p ∈ l, existsB N p.1 p.2 = true := by
  intro p hp
  obtain ⟨i, hi, rfl⟩ := List.getElem_of_mem hp
  simp only [portsOk, List.all_eq_true] at h
  have := h i (by simpa using hi)
  simp only [okAt, List.getElem?_eq_getElem hi, Bool.and_eq_true] at this
  exact this.1
theorem net_of {N : Int} {ws : List Wire} {hn hl : Int} (h1 : 1 ≤ N) (h8 : N ≤ 8) (h : portsOk N ((hn, hl) :: portsOf ws) = true) : NetOk N ws hn := by
  have H := portsOk_at h
  have ex : ∀ a b, existsB N a b = true → 0 ≤ a ∧ a < N := fun a b hab => by simp [existsB] at hab; omega
  refine ⟨h1, h8, (ex _ _ (H (hn, hl) (by simp))).1, (ex _ _ (H (hn, hl) (by simp))).2, fun x hx => ⟨ex _ _ (H (x.a, x.b) ?_), ex _ _ (H (x.c, x.d) ?_)⟩⟩
  · simp only [portsOf, List.mem_cons, List.mem_flatMap]; exact .inr ⟨x, hx, by simp⟩
  · simp only [portsOf, List.mem_cons, List.mem_flatMap]; exact .inr ⟨x, hx, by simp⟩
theorem may_all {N : Int} {ws : List Wire} {hn hl : Int} (h1 : 1 ≤ N) (h8 : N ≤ 8) (hm : ws.length ≤ 32) (hp : portsOk N ((hn, hl) :: portsOf ws) = true) (hd : diffAll ws = true) :
    mayB N ws hn hl = decide (((orderOf ws hn hl).length : Int) = N) := by simp [mayB, h1, h8, hm, hp, hd]
theorem okAt_not {N : Int} {l : List Pt} {i : Nat} {p : Pt} (hp : l[i]? = some p) (h : existsB N p.1 p.2 = false) : okAt N l i = false := by simp [okAt, hp, h]
theorem okAt_dup {N : Int} {l : List Pt} {i k : Nat} {p q : Pt} (hp : l[i]? = some p) (hk : k < i) (hq : l[k]? = some q) (h : portEq q.1 q.2 p.1 p.2 = true) : okAt N l i = false := by
  have : (l.take i).all (fun q => !portEq q.1 q.2 p.1 p.2) = false := by
    rw [List.all_eq_false]
    refine ⟨q, List.mem_of_getElem? (i := k) ?_, by simp [h]⟩
    rw [List.getElem?_take, if_pos hk]; exact hq
  simp [okAt, hp, this]
theorem okAt_yes {N : Int} {l : List Pt} {i : Nat} {p : Pt} (hp : l[i]? = some p) (h : existsB N p.1 p.2 = true) (h2 : (l.take i).all (fun q => !portEq q.1 q.2 p.1 p.2) = true) : okAt N l i = true := by simp [okAt, hp, h, h2]
theorem all_take_succ {α : Type} {l : List α} {k : Nat} {x : α} {f : α → Bool} (hx : l[k]? = some x) (h : (l.take k).all f = true) (hf : f x = true) : (l.take (k + 1)).all f = true := by
  obtain ⟨hk, rfl⟩ := List.getElem?_eq_some_iff.1 hx
  rw [List.take_succ_eq_append_getElem hk, List.all_append, h]; simp [hf]

end Go.Proofs.Ytekamebpjjkifaa

/- walks -/
namespace Go.Proofs.Ytekamebpjjkifaa
open Go.RowKit
set_option linter.unusedVariables false
set_option linter.unusedSimpArgs false

theorem mayB_net {N : Int} {ws : List Wire} {hn hl : Int} (h : mayB N ws hn hl = true) : NetOk N ws hn := by
  simp only [mayB, Bool.and_eq_true, decide_eq_true_eq] at h
  exact net_of h.1.1.1.1.1 h.1.1.1.1.2 h.1.1.2
def rpeerOf (N : Int) (ws : List Wire) (hn hl a b : Int) : Option Pt := if mayB N ws hn hl then peerL ws a b else none

/-- A slice of ints and an error number. -/
def RetSE (xs : List Int) (k : Int) (w : World) (e : Ending) (w' : World) : Prop :=
  ∃ A c, e = .returned (.tuple #[.slice A xs.length c, .int .i64 k]) ∧ Reads w' w'.heap.size 1 A xs.length (icells xs) ∧ Below w.heap.size w w'
theorem icells_length (xs : List Int) : (icells xs).length = xs.length := by simp [icells]
theorem RetSE.of_own {w w' : World} {base e n : Nat} {v : Value} {xs : List Int} {k : Int} (h : w'.ownsRow base e 1 v n (icells xs)) (hB : Below w.heap.size w w') : RetSE xs k w (.returned (.tuple #[v, .int .i64 k])) w' := by
  have hn : xs.length = n := by have := h.1; rw [icells_length] at this; omega
  subst hn
  rcases h.2 with ⟨rfl, h0⟩ | ⟨g, cap, cur, rfl, _⟩
  · rw [RetSE, h0]
    rw [h0] at h
    exact ⟨none, 0, rfl, Reads.of_own h, hB⟩
  · exact ⟨_, _, rfl, Reads.of_own h, hB⟩
theorem RetSE.nil {w w' : World} {k : Int} (hB : Below w.heap.size w w') : RetSE [] k w (.returned (.tuple #[.slice none 0 0, .int .i64 k])) w' :=
  ⟨none, 0, rfl, Reads.none_, hB⟩
theorem int_info : (Try.prog.info? 3).map (fun i => (i.zero, i.size, i.bytes)) = some (some (.int .i64 0), 1, 8) := by kernel_rfl

def rtreeOf (N : Int) (ws : List Wire) (hn hl : Int) : List Int := (List.range N.toNat).map fun i : Nat => (upOf ws hn hl (i : Int)).2
def rTreeR (N : Int) (ws : List Wire) (hn hl : Int) : List Int × Int := if mayB N ws hn hl then (rtreeOf N ws hn hl, 0) else ([], 2)

end Go.Proofs.Ytekamebpjjkifaa

/- A map from ports to ports, as a list of pairs; its lookups, and a new entry. -/
namespace Go.Proofs.Ytekamebpjjkifaa
open Go.RowKit
set_option linter.unusedVariables false
set_option linter.unusedSimpArgs false

def pent (p : Pt × Pt) (i : Nat) : MapEntry := ⟨ptV p.1, ptV p.2, i⟩
def entsFrom : Nat → List (Pt × Pt) → List MapEntry
  | _, [] => []
  | i, p :: r => pent p i :: entsFrom (i + 1) r
def ents (E : List (Pt × Pt)) : Array MapEntry := (entsFrom 0 E).toArray
def MapIs (w : World) (b : Nat) (E : List (Pt × Pt)) : Prop := w.heap[b]? = some (.map (ents E) E.length)
def lookL (E : List (Pt × Pt)) (k : Pt) : Option Pt := (E.find? (fun p => portEq k.1 k.2 p.1.1 p.1.2)).map (·.2)
def findE (k : Pt) : List (Pt × Pt) → Nat → Option (Nat × Value)
  | [], _ => none
  | p :: r, j => if portEq k.1 k.2 p.1.1 p.1.2 then some (j, ptV p.2) else findE k r (j + 1)

theorem entsFrom_length (i : Nat) (E : List (Pt × Pt)) : (entsFrom i E).length = E.length := by
  induction E generalizing i with
  | nil => rfl
  | cons p r ih => simp [entsFrom, ih]
theorem entsFrom_append (i : Nat) (E F : List (Pt × Pt)) : entsFrom i (E ++ F) = entsFrom i E ++ entsFrom (i + E.length) F := by
  induction E generalizing i with
  | nil => simp [entsFrom]
  | cons p r ih => simp only [List.cons_append, entsFrom, ih, List.length_cons]; rw [show i + 1 + r.length = i + (r.length + 1) from by omega]
theorem findE_look (k : Pt) (E : List (Pt × Pt)) (j : Nat) : (findE k E j).map (·.2) = (lookL E k).map ptV := by
  induction E generalizing j with
  | nil => rfl
  | cons p r ih =>
    simp only [findE, lookL, List.find?_cons]
    cases portEq k.1 k.2 p.1.1 p.1.2
    · simpa [lookL] using ih (j + 1)
    · rfl
theorem run_findAsking (w : World) (k : Pt) : ∀ (E : List (Pt × Pt)) (i j : Nat), (Instr.findAsking 38 (ptV k) (entsFrom i E) j).run Try.prog w = .ok (findE k E j) w
  | [], i, j => by simp [Instr.findAsking, entsFrom, findE]
  | p :: r, i, j => by
    have h := port_eqIn w 9998 k.1 k.2 p.1.1 p.1.2
    simp only [Instr.findAsking, entsFrom, pent, findE, Op.equal, Op.maxDepth, Sem.run_bind]
    rw [show (Op.equalIn 10000 38 (ptV k) (ptV p.1)).run Try.prog w = .ok (portEq k.1 k.2 p.1.1 p.1.2) w from h]
    simp only [Result.andThen_ok]
    cases portEq k.1 k.2 p.1.1 p.1.2
    · exact run_findAsking w k r (i + 1) (j + 1)
    · simp
theorem u24 : ∃ fs, Try.prog.underlying 38 = some (.struct fs) := ⟨_, Try.underlying38⟩
theorem run_findKey24 (w : World) (k : Pt) (E : List (Pt × Pt)) : (Instr.findKey 38 (ptV k) (entsFrom 0 E)).run Try.prog w = .ok (findE k E 0) w := by
  obtain ⟨fs, hf⟩ := u24
  simp only [Instr.findKey, Sem.run_bind, run_underlying hf, Result.andThen_ok]
  cases E with
  | nil => simp [entsFrom, Instr.findNow, findE]
  | cons p r =>
    have : Instr.findNow (.struct fs) (ptV k) (entsFrom 0 (p :: r)) 0 = none := rfl
    rw [this]
    exact run_findAsking w k (p :: r) 0 0
theorem run_check24 (w : World) (em : Bool) (k : Pt) : (Instr.checkKey em 10000 38 (ptV k)).run Try.prog w = .ok () w := by kernel_rfl
theorem run_zero24 (w : World) : (zeroValue 38).run Try.prog w = .ok (ptV (0, 0)) w := by kernel_rfl

theorem run_getMap {w : World} {b : Nat} {E : List (Pt × Pt)} (h : MapIs w b E) : (getObj b).run Try.prog w = .ok (.map (ents E) E.length) w := by
  unfold MapIs at h
  simp [getObj, Sem.run, h]
theorem run_setMap {w : World} {b : Nat} {E : List (Pt × Pt)} (h : MapIs w b E) (o : Obj) : (setObj b o).run Try.prog w = .ok () (w.putObj b o) := by
  unfold MapIs at h
  simp [setObj, Sem.run, h, World.putObj]
theorem findE_none {k : Pt} {E : List (Pt × Pt)} {j : Nat} : lookL E k = none ↔ findE k E j = none := by
  have := findE_look k E j
  cases h1 : findE k E j <;> cases h2 : lookL E k <;> simp_all

theorem run_lookup61 {w : World} {b : Nat} {E : List (Pt × Pt)} (h : MapIs w b E) (x y : Int) :
    (Instr.lookup 90 (.map (some b)) (.agg #[.int .i64 x, .int .i64 y]) true).run Try.prog w = .ok (peerV (lookL E (x, y))) w := by
  have hc := run_check24 w (ents E).isEmpty (x, y)
  have hf := run_findKey24 w (x, y) E
  have hz := run_zero24 w
  have hl := findE_look (x, y) E 0
  simp only [ptV] at hc hf hz
  simp only [Instr.lookup, Sem.run_bind, run_underlying Try.underlying90, Result.andThen_ok, run_getMap h, Sem.run_pure, hc, ents, hf] at *
  cases h1 : findE (x, y) E 0 with
  | none =>
    have h2 := findE_none.2 h1
    simp [h2, hz, peerV]
  | some r =>
    rw [h1] at hl
    cases h2 : lookL E (x, y) with
    | none => rw [h2] at hl; cases hl
    | some q =>
      rw [h2] at hl
      obtain ⟨i, v⟩ := r
      simp at hl
      subst hl
      simp [peerV, ptV]

theorem run_entry61 {w : World} {b : Nat} {E : List (Pt × Pt)} (h : MapIs w b E) {x y : Int} (hn : lookL E (x, y) = none) :
    (Instr.mapEntry 90 (.map (some b)) (.agg #[.int .i64 x, .int .i64 y])).run Try.prog w = .ok (.tuple #[.agg #[.int .i64 0, .int .i64 0], .int .i64 (E.length : Nat)]) (w.putObj b (.map (ents (E ++ [((x, y), (0, 0))])) (E.length + 1))) := by
  have hc := run_check24 w false (x, y)
  have hf := run_findKey24 w (x, y) E
  have hz := run_zero24 w
  rw [findE_none.1 hn] at hf
  simp only [ptV] at hc hf hz
  have he : (ents E).push { key := .agg #[.int .i64 x, .int .i64 y], val := .agg #[.int .i64 0, .int .i64 0], born := E.length } = ents (E ++ [((x, y), (0, 0))]) := by
    simp only [ents, entsFrom_append, List.push_toArray, Nat.zero_add]; rfl
  have hp : (entsFrom 0 E ++ [{ key := .agg #[.int .i64 x, .int .i64 y], val := .agg #[.int .i64 0, .int .i64 0], born := E.length }] : List MapEntry) = entsFrom 0 (E ++ [((x, y), (0, 0))]) := by
    rw [entsFrom_append, Nat.zero_add]; rfl
  simp only [Instr.mapEntry, Sem.run_bind, run_underlying Try.underlying90, Result.andThen_ok, run_getMap h, hc]
  simp only [ents] at *
  rw [hf]
  simp [hz, run_setMap h, goInt, hp]

theorem MapIs.put {w : World} {b : Nat} {E F : List (Pt × Pt)} (h : MapIs w b E) : MapIs (w.putObj b (.map (ents F) F.length)) b F :=
  World.putObj_heap_same (Array.getElem?_eq_some_iff.1 h).1

theorem run_estore61 {w : World} {b : Nat} {E : List (Pt × Pt)} {k z v : Pt} (h : MapIs w b (E ++ [(k, z)])) :
    (Instr.entryStore 90 (.map (some b)) (.int .i64 (E.length : Nat)) (.agg #[.int .i64 v.1, .int .i64 v.2])).run Try.prog w = .ok () (w.putObj b (.map (ents (E ++ [(k, v)])) (E.length + 1))) := by
  have hb : ∀ (E : List (Pt × Pt)) (i n : Nat), i + E.length = n → (entsFrom i E ++ [pent (k, z) n]).findIdx? (fun e => (e.born : Int) == (n : Int)) = some E.length := by
    intro E
    induction E with
    | nil => intro i n hn; simp [entsFrom, pent]
    | cons p r ih =>
      intro i n hn
      simp only [List.length_cons] at hn
      have := ih (i + 1) n (by omega)
      simp only [entsFrom, List.cons_append, List.findIdx?_cons, pent]
      rw [if_neg (by simp; omega)]
      simp only [pent] at this
      rw [this]; rfl
  have hidx : (ents (E ++ [(k, z)])).findIdx? (fun e => (e.born : Int) == (E.length : Int)) = some E.length := by
    have h1 := hb E 0 E.length (by omega)
    simp only [ents, List.findIdx?_toArray, entsFrom_append, Nat.zero_add]
    exact h1
  have hmod : (ents (E ++ [(k, z)])).modify E.length (fun e => { e with val := .agg #[.int .i64 v.1, .int .i64 v.2] }) = ents (E ++ [(k, v)]) := by
    have hl : (entsFrom 0 E).length = E.length := entsFrom_length 0 E
    simp only [ents, entsFrom_append, Nat.zero_add, List.modify_toArray]
    congr 1
    refine List.ext_getElem? fun n => ?_
    rw [List.getElem?_modify]
    rcases Nat.lt_trichotomy n E.length with hn | hn | hn
    · have hne : ¬ E.length = n := by omega
      simp only [hne, if_false]
      rw [List.getElem?_append_left (by omega), List.getElem?_append_left (by omega)]; simp
    · subst hn
      rw [List.getElem?_append_right (by omega), List.getElem?_append_right (by omega), hl, Nat.sub_self]
      simp [entsFrom, pent, ptV]
    · have hne : ¬ E.length = n := by omega
      simp only [hne, if_false]
      rw [List.getElem?_append_right (by omega), List.getElem?_append_right (by omega), hl]
      obtain ⟨d, hd⟩ : ∃ d, n - E.length = d + 1 := ⟨n - E.length - 1, by omega⟩
      rw [hd]; simp [entsFrom]
  simp only [Instr.entryStore, Sem.run_bind, run_getMap h, Result.andThen_ok]
  simp [asInt, asIntOf, hidx, hmod, run_setMap h]
end Go.Proofs.Ytekamebpjjkifaa

/- walks: the program's own ports and its join -/
namespace Go.Proofs.Ytekamebpjjkifaa
open Go.RowKit
set_option linter.unusedVariables false
set_option linter.unusedSimpArgs false

theorem MapIs.alloc {w : World} {b : Nat} {E : List (Pt × Pt)} (h : MapIs w b E) (o : Obj) : MapIs (w.alloc o) b E := (Below.heap_alloc w o b (Array.getElem?_eq_some_iff.1 h).1).trans h
theorem MapIs.drew {w : World} {b : Nat} {E : List (Pt × Pt)} (h : MapIs w b E) : MapIs w.drew b E := h
theorem MapIs.drewN {w : World} {b : Nat} {E : List (Pt × Pt)} (h : MapIs w b E) (n : Nat) : MapIs (w.drewN n) b E := h
theorem MapIs.lt {w : World} {b : Nat} {E : List (Pt × Pt)} (h : MapIs w b E) : b < w.heap.size := (Array.getElem?_eq_some_iff.1 h).1
theorem MapIs.below {w w' : World} {b B : Nat} {E : List (Pt × Pt)} (h : MapIs w b E) (k : Below B w w') (hb : b < B) : MapIs w' b E := (k.block b hb).trans h
theorem MapIs.call {w w' : World} {b : Nat} {E : List (Pt × Pt)} (h : MapIs w b E) (k : Below w.heap.size w w') : MapIs w' b E := h.below k h.lt
theorem MapIs.setCell {w : World} {b : Nat} {E : List (Pt × Pt)} (h : MapIs w b E) (p : Addr) (v : Value) : MapIs (w.setCell p v) b E := by
  unfold MapIs at h ⊢
  simp only [World.setCell, Array.getElem?_modify]
  split
  · rename_i hp; rw [h]; rfl
  · exact h
theorem MapIs.new (w : World) : MapIs (w.alloc (.map #[] 0)) w.heap.size [] := heap_alloc_new w _
/-- A turn of a map's block turns no cell. -/
theorem cell_putMap {w : World} {b : Nat} {E : List (Pt × Pt)} (h : MapIs w b E) (es : Array MapEntry) (n : Nat) (p : Addr) : (w.putObj b (.map es n)).cell? p = w.cell? p := by
  unfold MapIs at h
  unfold World.cell?
  by_cases hp : p.block = b
  · rw [hp, World.putObj_heap_same (Array.getElem?_eq_some_iff.1 h).1, h]
  · rw [World.putObj_heap_other hp]
theorem Blk.putMap {w : World} {b g : Nat} {t : TypeId} {cs : Array Value} {E : List (Pt × Pt)} (h : Blk w g t cs) (hm : MapIs w b E) (o : Obj) : Blk (w.putObj b o) g t cs := by
  unfold Blk at h ⊢
  rw [World.putObj_heap_other (fun e => by subst e; unfold MapIs at hm; rw [hm] at h; cases h)]; exact h
theorem SBl.putMap {B : Nat} {wr w : World} (h : SBl B wr w) {b : Nat} {E : List (Pt × Pt)} (hm : MapIs w b E) (es : Array MapEntry) (n : Nat) : SBl B wr (w.putObj b (.map es n)) :=
  ⟨by simpa [World.putObj] using h.1, fun c o hc => by rw [cell_putMap hm]; exact h.2 c o hc⟩

set_option maxHeartbeats 400000 in
theorem texists (n a b : Int) (w : World) :
    Calls Try.prog 53 #[.int .i64 n, .agg #[.int .i64 a, .int .i64 b]] w (RetV (.bool (existsB n a b)) w) := by
  go_enter Try.func53, Try.ntmps53
  go_wp2
  all_goals
    go_ret
    exact ⟨by congr 2; unfold existsB; simp_all; try omega, (Below.refl _ _).alloc (Nat.le_refl _) _⟩

def pairs (ws : List Wire) : List (Pt × Pt) := ws.flatMap fun x => [((x.a, x.b), (x.c, x.d)), ((x.c, x.d), (x.a, x.b))]
theorem portEq_symm (a b c d : Int) : portEq a b c d = portEq c d a b := by simp only [portEq]; congr 1; apply propext; constructor <;> (rintro ⟨rfl, rfl⟩; exact ⟨rfl, rfl⟩)
theorem lookL_pairs (ws : List Wire) (a b : Int) : lookL (pairs ws) (a, b) = peerL ws a b := by
  induction ws with
  | nil => rfl
  | cons x r ih =>
    have e : pairs (x :: r) = ((x.a, x.b), (x.c, x.d)) :: ((x.c, x.d), (x.a, x.b)) :: pairs r := rfl
    rw [e]
    simp only [lookL, List.find?_cons, peerL] at ih ⊢
    by_cases h1 : x.a = a ∧ x.b = b
    · have : portEq a b x.a x.b = true := by simp [portEq, h1.1, h1.2]
      rw [this, if_pos h1]; rfl
    · have : portEq a b x.a x.b = false := by simp only [portEq, decide_eq_false_iff_not]; rintro ⟨rfl, rfl⟩; exact h1 ⟨rfl, rfl⟩
      rw [this, if_neg h1]
      by_cases h2 : x.c = a ∧ x.d = b
      · have : portEq a b x.c x.d = true := by simp [portEq, h2.1, h2.2]
        simp only [this]; rw [if_pos h2]; rfl
      · have : portEq a b x.c x.d = false := by simp only [portEq, decide_eq_false_iff_not]; rintro ⟨rfl, rfl⟩; exact h2 ⟨rfl, rfl⟩
        simp only [this]; rw [if_neg h2]; exact ih
theorem pairs_take {ws : List Wire} {k : Nat} {x : Wire} (hx : ws[k]? = some x) : pairs (ws.take (k + 1)) = pairs (ws.take k) ++ [((x.a, x.b), (x.c, x.d))] ++ [((x.c, x.d), (x.a, x.b))] := by
  obtain ⟨hk, rfl⟩ := List.getElem?_eq_some_iff.1 hx
  rw [List.take_succ_eq_append_getElem hk]; simp only [pairs, List.flatMap_append, List.append_assoc]; rfl

def wireOk (N hn hl : Int) (pre : List Wire) (x : Wire) : Bool :=
  !(peerL pre x.a x.b).isSome && !(peerL pre x.c x.d).isSome && !(x.a == x.c) && !portEq x.a x.b hn hl && !portEq x.c x.d hn hl && existsB N x.a x.b && existsB N x.c x.d
def wireAt (N hn hl : Int) (ws : List Wire) (i : Nat) : Bool := match ws[i]? with
  | some x => wireOk N hn hl (ws.take i) x
  | none => true
def joinB (N hn hl : Int) (ws : List Wire) : Bool :=
  decide (1 ≤ N) && decide (N ≤ 8) && decide (ws.length ≤ 32) && existsB N hn hl && (List.range ws.length).all (wireAt N hn hl ws)
theorem join_low {N : Int} {ws : List Wire} {hn hl : Int} (h : N < 1) : joinB N hn hl ws = false := by simp [joinB]; omega
theorem join_high {N : Int} {ws : List Wire} {hn hl : Int} (h : 8 < N) : joinB N hn hl ws = false := by simp [joinB]; omega
theorem join_many {N : Int} {ws : List Wire} {hn hl : Int} (h : 32 < ws.length) : joinB N hn hl ws = false := by simp [joinB]; omega
theorem join_host {N : Int} {ws : List Wire} {hn hl : Int} (h : existsB N hn hl = false) : joinB N hn hl ws = false := by simp [joinB, h]
theorem join_wire {N : Int} {ws : List Wire} {hn hl : Int} {i : Nat} {x : Wire} (hx : ws[i]? = some x) (h : wireOk N hn hl (ws.take i) x = false) : joinB N hn hl ws = false := by
  have : (List.range ws.length).all (wireAt N hn hl ws) = false := by
    rw [List.all_eq_false]
    exact ⟨i, by simpa using (List.getElem?_eq_some_iff.1 hx).1, by simp [wireAt, hx, h]⟩
  simp [joinB, this]
theorem join_yes {N : Int} {ws : List Wire} {hn hl : Int} (h1 : 1 ≤ N) (h8 : N ≤ 8) (h32 : ws.length ≤ 32) (hh : existsB N hn hl = true) (h : ∀ i, i < ws.length → wireAt N hn hl ws i = true) : joinB N hn hl ws = true := by
  have : (List.range ws.length).all (wireAt N hn hl ws) = true := by
    rw [List.all_eq_true]
    exact fun i hi => h i (by simpa using hi)
  simp [joinB, this, h1, h8, h32, hh]

/-- What join hands back. -/
def RetJ (ok : Bool) (cs : Nat → Array Value) (E : List (Pt × Pt)) (w : World) (e : Ending) (w' : World) : Prop :=
  Below w.heap.size w w' ∧ ((ok = false ∧ e = .returned (.tuple #[.pointer none, .bool false])) ∨
    (ok = true ∧ ∃ g r, e = .returned (.tuple #[.pointer (some ⟨g, 0, none⟩), .bool true]) ∧ Blk w' g 92 (cs r) ∧ MapIs w' r E ∧ w.heap.size ≤ g))
end Go.Proofs.Ytekamebpjjkifaa

/- A range over a function whose body always goes on, where the iterator writes blocks of its own: one law. -/
namespace Go.Proofs.Ytekamebpjjkifaa
open Go.RowKit
set_option linter.unusedVariables false
set_option linter.unusedSimpArgs false

def isLoopB : Obj → Bool
  | .loop _ => true
  | _ => false
/-- All blocks but those of X, and but the loops' own records, lie as they lay. -/
structure KeepX (X : Nat → Prop) (A B : World) : Prop where
  size : A.heap.size ≤ B.heap.size
  block : ∀ k o, ¬ X k → A.heap[k]? = some o → isLoopB o = false → B.heap[k]? = some o
theorem KeepX.refl (X : Nat → Prop) (A : World) : KeepX X A A := ⟨Nat.le_refl _, fun _ _ _ h _ => h⟩
theorem KeepX.trans {X : Nat → Prop} {A B C : World} (h : KeepX X A B) (k : KeepX X B C) : KeepX X A C :=
  ⟨Nat.le_trans h.size k.size, fun i o hx ho hl => k.block i o hx (h.block i o hx ho hl) hl⟩
theorem KeepX.putLoop (X : Nat → Prop) {W : World} {l : Nat} {r r' : Loop} (h : W.heap[l]? = some (.loop r)) : KeepX X W (W.putObj l (.loop r')) := by
  refine ⟨by simp [World.putObj], fun k o _ ho hl => ?_⟩
  by_cases hk : k = l
  · subst hk; rw [h] at ho; injection ho with ho; subst ho; cases hl
  · rw [World.putObj_heap_other hk]; exact ho

/-- An invariant that speaks of blocks below B alone. -/
def DeepT {β : Type} (B : Nat) (J : β → World → Prop) : Prop :=
  ∀ s W W', J s W → Below B W W' → J s W'

/-- The iterator hands over just xs, whatever the body does within its word. -/
def SeqAll {α : Type} (F : Fence) (n : Nat) (P : Program) (gf : Nat) (lb : Array Value) (encs : α → Array Value) (X : Nat → Prop) (xs : List α) (w : World) : Prop :=
  ∀ (l : Nat) (J : List α → World → Prop) (W : World), Below w.heap.size w W → DeepT W.heap.size J →
    (∀ pre x r W1, J pre W1 → xs = pre ++ x :: r → YieldAt F (n - 1) P l (encs x) W1 fun e W' => e = .returned (.bool true) ∧ J (pre ++ [x]) W' ∧ KeepX X W1 W') →
    J [] W → CallsIn F n P gf (#[.func (.yield l) #[] #[]] ++ lb) W fun e W' => (∃ v, e = .returned v) ∧ J xs W'

def goesOn (X : Nat → Prop) (W : World) (R : World → Prop) : Exit → Act → World → Prop
  | .normal, _, W' => KeepX X W W' ∧ (∀ (k : Nat) (r : Loop), W.heap[k]? = some (Obj.loop r) → W'.heap[k]? = some (Obj.loop r)) ∧ R W'
  | _, _, _ => False

theorem wpIn_range_all {P : Program} {F : Fence} {n : Nat} {α : Type} {g : Operand} {ps : Array Tmp} {assign body : Code} {Q : Exit → Act → World → Prop} {a : Act} {w : World}
    (hro : F.round = none) (hdp : F.depth = none) {gf : Nat} {lb : Array Value} (hg : a.eval g = .func (.func gf) #[] lb) (hFg : F.fn gf) (eg : ∀ args w, (callFunc gf args).run P w = .ok (.enter gf args) w)
    {encs : α → Array Value} {X : Nat → Prop} (hX : ∀ k, X k → k < w.heap.size) {xs : List α} {w0 : World} (hseq : SeqAll F (n - 1) P gf lb encs X xs w0) (hb0 : Below w0.heap.size w0 w) (hps : ∀ x, (encs x).size = ps.size)
    (I : List α → World → Prop) (hI : DeepT w.heap.size I) (h0 : I [] w)
    (hround : ∀ (l : Nat) (pre : List α) (x : α) (r : List α) (W : World), I pre W → xs = pre ++ x :: r → w.heap.size + 2 ≤ W.heap.size →
      assign.wpIn (F.inRound l) (n - 1 - 1) P (Exit.then (fun a₁ W1 => KeepX X W W1 ∧ (∀ (k : Nat) (r : Loop), W.heap[k]? = some (Obj.loop r) → W1.heap[k]? = some (Obj.loop r)) ∧
        ∀ W2, W1.grownBy W2 (some l) → (w.heap.size ≤ l ∧ l < w.heap.size + 2) → body.wpIn (F.inRound l) (n - 1 - 1) P (goesOn X W2 (I (pre ++ [x]))) a₁ W2) (fun _ _ _ => False))
        { tmps := (ps.zip (encs x)).foldl (fun t (p, v) => t.setIfInBounds p v) a.tmps, defers := [] } W)
    (hdone : ∀ (D : Nat) (W : World), I xs W → W.heap[D]? = some (.deferred (some [])) → w.heap.size ≤ D → Q .normal { a with defers := { target := .collected D, args := #[] } :: a.defers } W) :
    (Code.rangeFunc g ps assign body).wpIn F n P Q a w := by
  refine wpIn_rangeFunc ?_
  intro fn hfn
  rw [hro]
  obtain ⟨rec, hrec⟩ : ∃ rec : LoopState → Loop, rec = fun st => { state := st, pending := none, fn, tmps := a.tmps, params := ps, assign, body, defers := w.heap.size } := ⟨_, rfl⟩
  obtain ⟨W1, hW1⟩ : ∃ W1, (w.alloc (.deferred (some []))).alloc (.loop (rec .ready)) = W1 := ⟨_, rfl⟩
  have hsz : W1.heap.size = w.heap.size + 2 := by rw [← hW1]; simp
  have hL1 : W1.heap[w.heap.size + 1]? = some (.loop (rec .ready)) := by
    rw [← hW1]; have := World.alloc_heap_new (w.alloc (.deferred (some []))) (.loop (rec .ready)); rwa [World.size_alloc] at this
  have hK1 : W1.heap[w.heap.size]? = some (.deferred (some [])) := by
    rw [← hW1]; exact (Below.heap_alloc _ _ _ (by simp)).trans (World.alloc_heap_new w _)
  have hI1 : I [] W1 := by
    rw [← hW1]
    exact hI _ _ _ h0 (((Below.refl _ _).alloc (Nat.le_refl _) _).alloc (by simp) _)
  have hb1 : Below w0.heap.size w0 W1 := by
    rw [← hW1]; exact hb0.trans ((((Below.refl _ w).alloc (Nat.le_refl _) _).alloc (by simp) _).mono hb0.size)
  refine ⟨w.heap.size + 1, [{ target := .collected w.heap.size, args := #[] }], W1, { target := .fn (.func gf) lb, args := #[.func (.yield (w.heap.size + 1)) #[] #[]] }, W1, gf,
    #[.func (.yield (w.heap.size + 1)) #[] #[]] ++ lb, W1, ?_, ?_, ?_, ?_, (fun h => by rw [hdp] at h; cases h), ?_⟩
  · rw [← hW1, hrec]; exact run_enterLoop_outer _ _ _ _ _
  · simp only [resolve, hg]
    simp [go_sem]
  · intro f' hf'; simp [Target.leads] at hf'; subst hf'; exact hFg
  · simp [invoke, go_sem, eg]
  · refine (hseq (w.heap.size + 1)
      (fun pre W => I pre W ∧ W.heap[w.heap.size + 1]? = some (.loop (rec .ready)) ∧ W.heap[w.heap.size]? = some (.deferred (some [])) ∧ w.heap.size + 2 ≤ W.heap.size)
      W1 hb1 ?_ ?_ ⟨hI1, hL1, hK1, by omega⟩).mono ?_
    · rintro s A B ⟨hs, hl, hk, hz⟩ hgr
      refine ⟨hI s A B hs (hgr.mono (by omega)), ?_, ?_, Nat.le_trans hz hgr.size⟩
      · rw [hgr.block _ (by omega)]; exact hl
      · rw [hgr.block _ (by omega)]; exact hk
    · rintro pre x r W ⟨hi, hl, hk, hz⟩ hxs
      have hy := run_yield (P := P) (args := encs x) hl (by rw [hrec]; exact hps x)
      rw [hrec] at hy
      refine ⟨fn, _, assign, body, hy, roundIn_of_wpIn hfn (wpIn_mono (hround (w.heap.size + 1) pre x r W hi hxs hz) ?_)⟩
      rintro e a1 W2 hp
      cases e with
      | normal =>
        obtain ⟨hkx, hlp, hbody⟩ := hp
        have hl2 := hlp _ _ hl
        have hbl : ¬ X (w.heap.size) := fun h => by have := hX _ h; omega
        have hk2 := hkx.block _ _ hbl hk rfl
        refine ⟨_, run_beginRound hl2 (by rw [hrec]), ?_⟩
        have hl3 : (W2.putObj (w.heap.size + 1) (.loop { rec .ready with state := .busy })).heap[w.heap.size + 1]? = some (.loop { rec .ready with state := .busy }) := World.putObj_heap_same (Array.getElem?_eq_some_iff.1 hl2).1
        have hk3 : (W2.putObj (w.heap.size + 1) (.loop { rec .ready with state := .busy })).heap[w.heap.size]? = some (.deferred (some [])) := (World.putObj_heap_other (by omega)).trans hk2
        have kx3 := hkx.trans (KeepX.putLoop X hl2 (r' := { rec .ready with state := .busy }))
        refine wpIn_mono (hbody _ (grownBy_putObj' W2 _ _) ⟨by omega, by omega⟩) ?_
        rintro e a2 W4 hp4
        cases e with
        | normal =>
          obtain ⟨kx4, lp4, hi4⟩ := hp4
          have hl4 := lp4 _ _ hl3
          have hk4 := kx4.block _ _ hbl hk3 rfl
          have her := run_endRound (P := P) none hl4
          have hfin : ({ rec .ready with state := .busy } : Loop) = { rec .ready with state := .busy } := rfl
          refine ⟨_, _, her, rfl, ⟨hI _ _ _ hi4 ((Below.refl _ _).putObj (by omega) _), ?_, ?_, ?_⟩, (kx3.trans kx4).trans (KeepX.putLoop X hl4)⟩
          · rw [World.putObj_heap_same (Array.getElem?_eq_some_iff.1 hl4).1, hrec]; rfl
          · exact (World.putObj_heap_other (by omega)).trans hk4
          · have h1 := (kx3.trans kx4).size
            simp [World.putObj] at h1 ⊢; omega
        | _ => exact hp4.elim
      | _ => exact hp.elim
    · rintro e W2 ⟨⟨v, rfl⟩, hi, hl, hk, hz⟩
      refine ⟨none, _, by have := run_endLoop (P := P) hl (by rw [hrec]; simp); rw [hrec] at this; exact this, ?_⟩
      exact hdone _ _ (hI _ _ _ hi ((Below.refl _ _).putObj (by omega) _)) ((World.putObj_heap_other (by omega)).trans hk) (Nat.le_refl _)
end Go.Proofs.Ytekamebpjjkifaa

/- The program's iterator over the nodes in the order of the tree. -/
namespace Go.Proofs.Ytekamebpjjkifaa
open Go.RowKit
set_option linter.unusedVariables false
set_option linter.unusedSimpArgs false

def gbox (w : World) (gb g r : Nat) (N hn hl : Int) (A : Option Addr) (m c : Nat) (ws : List Wire) : Prop :=
  Blk w gb 87 #[.pointer (some ⟨g, 0, none⟩)] ∧ Blk w g 92 #[.int .i64 N, .slice A m c, .int .i64 hn, .int .i64 hl, .map (some r)] ∧ MapIs w r (pairs ws)
theorem gbox.below {w w' : World} {gb g r m c : Nat} {N hn hl : Int} {A : Option Addr} {ws : List Wire} (h : gbox w gb g r N hn hl A m c ws) (k : Below w.heap.size w w') : gbox w' gb g r N hn hl A m c ws :=
  ⟨h.1.call k, h.2.1.call k, h.2.2.call k⟩
theorem gbox.keepX {X : Nat → Prop} {w w' : World} {gb g r m c : Nat} {N hn hl : Int} {A : Option Addr} {ws : List Wire} (h : gbox w gb g r N hn hl A m c ws) (k : KeepX X w w') (h1 : ¬ X gb) (h2 : ¬ X g) (h3 : ¬ X r) : gbox w' gb g r N hn hl A m c ws :=
  ⟨k.block _ _ h1 h.1 rfl, k.block _ _ h2 h.2.1 rfl, k.block _ _ h3 h.2.2 rfl⟩
theorem gbox.under {B : Nat} {w w' : World} {gb g r m c : Nat} {N hn hl : Int} {A : Option Addr} {ws : List Wire} (h : gbox w gb g r N hn hl A m c ws) (k : Below B w w') (h1 : gb < B) (h2 : g < B) (h3 : r < B) : gbox w' gb g r N hn hl A m c ws :=
  ⟨h.1.below k h1, h.2.1.below k h2, h.2.2.below k h3⟩
/-- Which nodes are found. -/
def flags (l : List Pt) : Array Value := ((List.range 8).map fun k : Nat => Value.bool (l.any fun p => p.1 == (k : Int))).toArray

theorem flags_get (l : List Pt) (j : Nat) (hj : j < 8) : (flags l)[j]? = some (.bool (l.any fun p => p.1 == (j : Int))) := by
  simp [flags, hj]
theorem flags_size (l : List Pt) : (flags l).size = 8 := by simp [flags]
theorem flags_snoc (l : List Pt) (q : Pt) (h0 : 0 ≤ q.1) (h8 : q.1 < 8) : (flags l).setIfInBounds q.1.toNat (.bool true) = flags (l ++ [q]) := by
  refine Array.ext_getElem? fun j => ?_
  rw [Array.getElem?_setIfInBounds]
  rcases Nat.lt_or_ge j 8 with hj | hj
  · rw [flags_get _ _ hj, flags_size]
    split
    · rename_i he
      rw [if_pos (by omega), flags_get _ _ hj]
      subst he
      congr 2
      have : (q.1 == ((q.1.toNat : Nat) : Int)) = true := by simp; omega
      rw [List.any_append]
      simp only [List.any_cons, List.any_nil, this, Bool.or_false, Bool.or_true]
    · rename_i he
      rw [flags_get _ _ hj]
      congr 2
      have : (q.1 == (j : Int)) = false := by simp; omega
      rw [List.any_append]
      simp only [List.any_cons, List.any_nil, this, Bool.or_false]
  · have e1 : (flags l)[j]? = none := Array.getElem?_eq_none (by rw [flags_size]; exact hj)
    have e2 : (flags (l ++ [q]))[j]? = none := Array.getElem?_eq_none (by rw [flags_size]; exact hj)
    rw [e1, e2, flags_size]
    split
    · rw [if_neg (by omega)]
    · rfl
theorem fresh_any (q : Pt) (l : List Pt) : fresh (some q) l = !(l.any fun p => p.1 == q.1) := by
  simp only [fresh]
  induction l with
  | nil => rfl
  | cons p r ih => simp only [List.all_cons, List.any_cons, ih, Bool.not_or]; cases h : p.1 == q.1 <;> simp_all
theorem ordL_ext {ws : List Wire} : ∀ (f : Nat) (l : List Pt) (i : Nat), ∃ r, ordL ws f l i = l ++ r
  | 0, l, _ => ⟨[], by simp [ordL]⟩
  | f + 1, l, i => by
    simp only [ordL]
    split
    · rename_i p _
      obtain ⟨r, hr⟩ := ordL_ext f (ordNode ws p.1 l) (i + 1)
      obtain ⟨a, ha⟩ := ordStep_ext ws p.1 l 0
      obtain ⟨b, hb⟩ := ordStep_ext ws p.1 (l ++ a) 1
      obtain ⟨c, hc⟩ := ordStep_ext ws p.1 (l ++ a ++ b) 2
      obtain ⟨d, hd⟩ := ordStep_ext ws p.1 (l ++ a ++ b ++ c) 3
      have e : ordNode ws p.1 l = l ++ a ++ b ++ c ++ d := by
        show ordStep ws p.1 (ordStep ws p.1 (ordStep ws p.1 (ordStep ws p.1 l 0) 1) 2) 3 = _
        rw [ha, hb, hc, hd]
      exact ⟨a ++ b ++ c ++ d ++ r, by rw [hr, e]; simp only [List.append_assoc]⟩
    · exact ⟨[], by simp⟩
theorem ownsOff.keepX {X : Nat → Prop} {w w' : World} {B e size n : Nat} {v : Value} {xs : List Value} (h : ownsOff w B e size v n xs) (k : KeepX X w w') (hX : ∀ i, X i → i < B) : ownsOff w' B e size v n xs := by
  obtain ⟨g, hg, hB, _⟩ := h.lt
  exact h.keep fun g' cur t hg' hh => k.block _ _ (fun hx => by rw [hg] at hg'; injection hg' with e; have := hX _ hx; omega) hh rfl
theorem take_succ_eq {l : List Pt} {i : Nat} {x : Pt} (h : l[i]? = some x) : l.take (i + 1) = l.take i ++ [x] := by
  rw [List.take_add_one, h]; rfl
theorem ownsOff.farSet {w : World} {B e size n : Nat} {v : Value} {xs : List Value} (h : ownsOff w B e size v n xs) {p : Addr} (hp : p.block < B) (u : Value) : ownsOff (w.setCell p u) B e size v n xs := by
  obtain ⟨g, hg, hB, _⟩ := h.lt
  refine h.keep fun g' cur t hg' hh => (Below.heap_setCell w p u g' ?_).trans hh
  rw [hg] at hg'; injection hg' with e; omega
theorem app_run {P : Program} {w : World} {ops : Array Oper} {rest : List Oper} {o : Oper} {a : Act} {Q : Exit → Act → World → Prop} {v' : Value} {w' : World} (hgd : o.guard = none) (s x : Operand) (t : TypeId)
    (ho : o.op = .call { callee := .builtin .append, args := #[s, x], argTypes := #[t, t] }) (v u : Value) (hs : a.eval s = v) (hx : a.eval x = u)
    (hrun : (Builtin.append_ #[t, t] o.type #[v, u]).run P w = .ok v' w') (h : wpList P ops Q rest (a.put o.dst v') w') : wpList P ops Q (o :: rest) a w :=
  wpList_plain hgd fun K hK => by
    unfold Oper.wp execOp
    simp only [ho, resolve, invoke, builtin, Sem.run_bind, Sem.run_pure, Result.andThen_ok, List.map_toArray, List.map_cons, List.map_nil, hs, hx, hrun]
    exact hK _ _ h
theorem pcells_drop (l : List Pt) (i : Nat) : (pcells (l.drop i)).drop 2 = pcells (l.drop (i + 1)) := by
  rcases Nat.lt_or_ge i l.length with h | h
  · rw [List.drop_eq_getElem_cons h]; rfl
  · have e : l.drop (i + 1) = [] := List.drop_eq_nil_of_le (by omega)
    rw [List.drop_eq_nil_of_le h, e]; rfl

set_option maxRecDepth 100000 in
set_option maxHeartbeats 2000000 in
theorem order1 (n : Nat) (N hn hl : Int) (A : Option Addr) (m c gb g r : Nat) (ws : List Wire) (hok : NetOk N ws hn) (X : Nat → Prop) (w0 : World) (hX : ∀ k, X k → k < w0.heap.size) (h1 : ¬ X gb) (h2 : ¬ X g) (h3 : ¬ X r)
    (hg : gbox w0 gb g r N hn hl A m c ws) :
    SeqAll Fence.wide n Try.prog 69 #[.pointer (some ⟨gb, 0, none⟩)] (fun p : Pt => #[ptV p]) X (orderOf ws hn hl) w0 := by
  intro l J W hW hJ hY h0
  have hgW : gbox W gb g r N hn hl A m c ws := hg.below hW
  refine callsIn_of_wp Try.func69 rfl trivial ?_ rfl
  simp only [Try.ntmps69, List.size_toArray, List.length_cons, List.length_nil, Nat.reduceAdd, Nat.reduceSub, Array.replicate_succ, Array.replicate_zero, List.push_toArray, List.append_toArray, List.nil_append, List.cons_append]
  have cb := hgW.1.cell 0
  have cg0 := hgW.2.1.cell 0
  have cg2 := hgW.2.1.cell 2
  have cg3 := hgW.2.1.cell 3
  have cg4 := hgW.2.1.cell 4
  simp at cb cg0 cg2 cg3 cg4
  have gbL := hgW.1.lt
  have gL := hgW.2.1.lt
  have rL := hgW.2.2.lt
  have hh0 := hok.h0
  have hh1 := hok.h1
  have hh8 := hok.n8
  have hh9 : hn < 8 := by omega
  have Hok := Lib.hid hok; clear hok
  obtain ⟨i0, hi0, hz0, hz1, hz2⟩ := info_parts port_info
  gi_wp2
  have hf0 : ([Value.bool false, Value.bool false, Value.bool false, Value.bool false, Value.bool false, Value.bool false, Value.bool false, Value.bool false].set hn.toNat (Value.bool true)).toArray = flags [(hn, hl)] := by
    have h := flags_snoc [] (hn, hl) hh0 hh9
    rw [List.nil_append] at h
    have e : flags [] = [Value.bool false, Value.bool false, Value.bool false, Value.bool false, Value.bool false, Value.bool false, Value.bool false, Value.bool false].toArray := rfl
    rw [← h, e, List.setIfInBounds_toArray]
  rw [hf0]
  have Hf0 := Lib.hid hf0; clear hf0
  obtain ⟨k1, k2, k3⟩ := lay2 W (flags [(hn, hl)]) #[.int .i64 hn, .int .i64 hl] 138 38
  have hown0 := ownsOff.of_own (World.ownsRow_lit (base := W.heap.size + 1) (e := 38) (size := 2) (W.alloc (.cells (flags [(hn, hl)]) 138)) #[.int .i64 hn, .int .i64 hl] 1 (by simp) (by unfold maxLen; omega) rfl) (by omega)
  simp only [World.size_alloc] at hown0
  have hg0 := hgW.below k1
  have hJ0 := hJ _ _ _ h0 k1
  have HY := Lib.hid hY; clear hY
  have HJ := Lib.hid hJ; clear hJ
  gi_loopg [4] 9 (fun k v wr => ∃ (i : Nat) (l : List Pt), k + i = 9 ∧ i ≤ l.length ∧ ownsOff wr (W.heap.size + 1) 38 2 v (l.length - i) (pcells (l.drop i)) ∧ Blk wr W.heap.size 138 (flags l) ∧ gbox wr gb g r N hn hl A m c ws ∧ Found N l ∧ Hid (orderOf ws hn hl = ordL ws (9 - i) l i) ∧ Hid (J (l.take i) wr) ∧ W.heap.size ≤ wr.heap.size)
  case atStart => exact ⟨0, [(hn, hl)], rfl, by simp, hown0, k2, hg0, ⟨by simp, fun p hp => by simp at hp; subst hp; exact ⟨hh0, hh1⟩⟩, rfl, hJ0, k1.size⟩
  case round =>
    clear hown0 hg0 hJ0 k1 k2 k3 hgW cb cg0 cg2 cg3 cg4
    obtain ⟨i, l', hki, hil, hown, bF, hgb, hF, Hord, HJl, hWr⟩ := hrel
    have hl8 := hF.short hh8
    obtain ⟨gq, oq, cap, rfl, hq1, hq2, hq3, hq4, hqc⟩ := hown.form
    by_cases hlt : i < l'.length
    · obtain ⟨⟨x1, x2⟩, hx⟩ : ∃ x, l'[i]? = some x := ⟨_, List.getElem?_eq_getElem hlt⟩
      have ed : l'.drop i = (x1, x2) :: l'.drop (i + 1) := by
        obtain ⟨h, hx⟩ := List.getElem?_eq_some_iff.1 hx
        rw [List.drop_eq_getElem_cons h, hx]
      have c0 := hqc 0 (by omega)
      have c1 := hqc 1 (by omega)
      rw [ed] at c0 c1
      replace c0 : wr.cell? ⟨gq, oq, none⟩ = some (.int .i64 x1) := c0
      replace c1 : wr.cell? ⟨gq, oq + 1, none⟩ = some (.int .i64 x2) := c1
      obtain ⟨rr, hrr⟩ : ∃ rr, orderOf ws hn hl = l'.take i ++ (x1, x2) :: rr := by
        obtain ⟨e, he⟩ := ordL_ext (ws := ws) (9 - i) l' i
        refine ⟨l'.drop (i + 1) ++ e, ?_⟩
        rw [Hord.out, he]
        conv => lhs; rw [← List.take_append_drop i l', ed]
        simp only [List.append_assoc, List.cons_append]
      have HRR := Lib.hid hrr; clear hrr
      have HX := Lib.hid hx; clear hx
      have HED := Lib.hid ed; clear ed
      obtain ⟨fn, tmps, assign, body, hy, hR⟩ := HY.out (l'.take i) (x1, x2) rr wr HJl.out HRR.out
      unfold ptV at hy
      have hlI : (0 : Int) < ((l'.length - i : Nat) : Int) := by omega
      gi_wp2
      refine ⟨by simp [Fence.wide], hR.mono ?_⟩
      rintro e w1 ⟨rfl, hJ1, kx⟩
      have hown1 := hown.keepX kx (fun j hj => by have := hX j hj; have := hW.size; omega)
      have hXF : ¬ X W.heap.size := fun h => by have := hX _ h; have := hW.size; omega
      have bF1 : Blk w1 W.heap.size 138 (flags l') := kx.block _ _ hXF bF rfl
      have hg1 := hgb.keepX kx h1 h2 h3
      have hWr1 : W.heap.size ≤ w1.heap.size := Nat.le_trans hWr kx.size
      rw [← take_succ_eq HX.out] at hJ1
      have HJ1 := Lib.hid hJ1
      clear hJ1 hown bF hgb c0 c1 hqc hq2 kx hy hR HRR HJl
      gi_wp2
      refine wpIn_wide_of_wp ?_
      go_loopw [4, 33] (fun v kk wx => ∃ (k : Nat) (rl : List Pt), kk = .int .i64 k ∧ k ≤ 4 ∧ ownsOff wx (W.heap.size + 1) 38 2 v ((l' ++ rl).length - i) (pcells ((l' ++ rl).drop i)) ∧ Blk wx W.heap.size 138 (flags (l' ++ rl)) ∧ gbox wx gb g r N hn hl A m c ws ∧ Found N (l' ++ rl) ∧
        Hid (ordNode ws x1 l' = ordFrom ws x1 (l' ++ rl) k) ∧ Hid (J (l'.take (i + 1)) wx) ∧ W.heap.size ≤ wx.heap.size) (fun _ kk _ => 4 - (intOf kk).toNat)
      case atStart => exact ⟨0, [], rfl, by simp, by simpa using hown1, by simpa using bF1, hg1, by simpa using hF, by rw [List.append_nil]; exact (ordFrom_zero ws x1 l').symm, HJ1, hWr1⟩
      case round =>
        clear hown1 bF1 hg1 hWr1 HJ1
        obtain ⟨k, rl, rfl, hk, hown, bF, hgb, hF2, Hn, HJ1, hWr⟩ := hrel
        have hlr : (l' ++ rl).length = l'.length + rl.length := List.length_append
        have hlr8 := hF2.short hh8
        obtain ⟨gq, oq, cap, rfl, hq1, hq2, hq3, hq4, hqc⟩ := hown.form
        by_cases hk4 : k < 4
        · have hx2 : (l' ++ rl)[i]? = some (x1, x2) := by rw [List.getElem?_append_left hlt]; exact HX.out
          have ed : (l' ++ rl).drop i = (x1, x2) :: (l' ++ rl).drop (i + 1) := by
            obtain ⟨h, hx⟩ := List.getElem?_eq_some_iff.1 hx2
            rw [List.drop_eq_getElem_cons h, hx]
          have c0 := hqc 0 (by omega)
          rw [ed] at c0
          replace c0 : wr.cell? ⟨gq, oq, none⟩ = some (.int .i64 x1) := c0
          have HED2 := Lib.hid ed; clear ed hqc hx2
          have cb := hgb.1.cell 0
          have cg0 := hgb.2.1.cell 0
          have cg1 := hgb.2.1.cell 1
          have cg2 := hgb.2.1.cell 2
          have cg3 := hgb.2.1.cell 3
          have cg4 := hgb.2.1.cell 4
          simp at cb cg0 cg1 cg2 cg3 cg4
          have lb := hgb.1.lt
          have lg := hgb.2.1.lt
          have hMl := hgb.2.2.lt
          have hlI : (0 : Int) < (((l' ++ rl).length - i : Nat) : Int) := by omega
          have hkI : (k : Int) < 4 := by omega
          have hL0 : 0 < (l' ++ rl).length - i := by omega
          obtain ⟨q, hq⟩ : ∃ q, peerL ws x1 k = q := ⟨_, rfl⟩
          obtain ⟨q1, q2, hq12⟩ : ∃ q1 q2, q.getD (0, 0) = (q1, q2) := ⟨_, _, rfl⟩
          have pV : peerV q = .tuple #[.agg #[.int .i64 q1, .int .i64 q2], .bool q.isSome] := by
            rcases q with _ | ⟨a, b⟩ <;> (simp at hq12; obtain ⟨rfl, rfl⟩ := hq12; rfl)
          have LK : ∀ w', MapIs w' r (pairs ws) → (Instr.lookup 90 (.map (some r)) (.agg #[.int .i64 x1, .int .i64 (k : Int)]) true).run Try.prog w' = .ok (.tuple #[.agg #[.int .i64 q1, .int .i64 q2], .bool q.isSome]) w' := fun w' hm => by
            have h := run_lookup61 hm x1 (k : Int)
            rw [lookL_pairs, hq, pV] at h
            exact h
          have HLK := Lib.hid LK; clear LK pV
          have HQ := Lib.hid hq; clear hq
          have HQ12 := Lib.hid hq12; clear hq12
          have hL8 : (l' ++ rl).length - i ≤ 8 := by omega
          generalize hls : (l' ++ rl).length - i = L at *
          have Hls := Lib.hid hls; clear hls
          go_upto_region 9 with (fail)
          go_cut [6, 7] (fun s6 s7 wx => ∃ g6 : Nat, s6 = .pointer (some ⟨g6, 0, none⟩) ∧ s7 = .bool q.isSome ∧ Blk wx g6 38 #[.int .i64 q1, .int .i64 q2] ∧ Below wr.heap.size wr wx)
          case first =>
            go_region_held3 (fun w' => wr.heap.size ≤ w'.heap.size ∧ (∀ b o, b < wr.heap.size → w'.cell? ⟨b, o, none⟩ = wr.cell? ⟨b, o, none⟩) ∧
                (Instr.lookup 90 (.map (some r)) (.agg #[.int .i64 x1, .int .i64 (k : Int)]) true).run Try.prog w' = .ok (.tuple #[.agg #[.int .i64 q1, .int .i64 q2], .bool q.isSome]) w')
              (first | exact ⟨SBel.drew.1, SBel.drew.2, HLK.out _ hgb.2.2.drew⟩ | exact ⟨(SBel.drew.alloc _).1, (SBel.drew.alloc _).2, HLK.out _ (hgb.2.2.drew.alloc _)⟩)
              (fail)
            all_goals
              go_wp2
              go_meet
              exact ⟨wr.heap.size, rfl, rfl, Blk.new wr.drew _ _, (Below.refl wr.heap.size wr).drew.alloc (Nat.le_refl _) _⟩
          case rest =>
            clear cb cg0 cg1 cg2 cg3 cg4 c0 HLK
            obtain ⟨g6, rfl, rfl, b6, k6⟩ := hcut
            have hgb' := hgb.below k6
            have bF' := bF.call k6
            have hown' := hown.below k6
            have HJ' : Hid (J (l'.take (i + 1)) wc) := HJ.out _ _ _ HJ1.out (k6.mono hWr)
            have hWr' := Nat.le_trans hWr k6.size
            clear hgb bF hown HJ1 hWr lb lg hMl k6 hq2
            rcases q with _ | ⟨a, b⟩
            · go_wp2
              go_roundw
              case rel =>
                refine ⟨k + 1, rl, by go_num, by omega, by rw [Hls.out]; exact hown', bF', hgb', hF2, ?_, HJ', hWr'⟩
                show _ = _
                rw [Hn.out, ordFrom_step _ _ _ _ hk4, ordStep_fresh, HQ.out]; rfl
              case measure => simp [intOf]; omega
            · obtain ⟨rfl, rfl⟩ : a = q1 ∧ b = q2 := by have h := HQ12.out; simp at h; exact h
              have hq0 := peerL_ok Hok.out HQ.out
              simp only at hq0
              obtain ⟨hqa, hqb⟩ := hq0
              have hq8 : a < 8 := by omega
              have c60 := b6.cell 0
              have c61 := b6.cell 1
              simp at c60 c61
              have cF := (bF'.cell a.toNat).trans (flags_get (l' ++ rl) a.toNat (by omega))
              have hfr := fresh_any (a, b) (l' ++ rl)
              rw [show ((a.toNat : Nat) : Int) = a from Int.toNat_of_nonneg hqa] at cF
              generalize hfa : ((l' ++ rl).any fun p => p.1 == a) = fa at *
              clear hfa
              have Hfr := Lib.hid hfr; clear hfr
              cases fa
              · have cFz := bF'.frozen a.toNat
                go_upto_region 12 with (fail)
                have bF2 := bF'.set_ a.toNat (.bool true)
                rw [flags_snoc (l' ++ rl) (a, b) hqa hq8] at bF2
                have kS : Below W.heap.size wc (wc.setCell ⟨W.heap.size, a.toNat, none⟩ (.bool true)) := Below.setCell (Below.refl W.heap.size wc) (p := ⟨W.heap.size, a.toNat, none⟩) (Nat.le_refl W.heap.size) _
                have hgS : gbox (wc.setCell ⟨W.heap.size, a.toNat, none⟩ (.bool true)) gb g r N hn hl A m c ws := hgb'.under kS gbL gL rL
                have b6S : Blk (wc.setCell ⟨W.heap.size, a.toNat, none⟩ (.bool true)) g6 38 #[.int .i64 a, .int .i64 b] := b6.far (b6.ne_ bF' (by decide)) _
                have hownS := hown'.farSet (p := ⟨W.heap.size, a.toNat, none⟩) (Nat.lt_succ_self W.heap.size) (.bool true)
                have HJS : Hid (J (l'.take (i + 1)) (wc.setCell ⟨W.heap.size, a.toNat, none⟩ (.bool true))) := HJ.out _ _ _ HJ'.out kS
                have hWrS := Nat.le_trans hWr' kS.size
                clear hgb' bF' hown' HJ' hWr' b6 cF cFz c60 c61 kS
                generalize wc.setCell ⟨W.heap.size, a.toNat, none⟩ (.bool true) = wd at *
                have c60 := b6S.cell 0
                have c61 := b6S.cell 1
                simp at c60 c61
                obtain ⟨v', w', hrun, hown2, hgr, hB2⟩ := app_off Try.underlying139 hi0 hz0 hz1 hz2 rfl (by decide) (hownS.alloc (.cells #[.int .i64 a, .int .i64 b] 38)) (by simp <;> omega) wd.heap.size 1 1 #[.int .i64 a, .int .i64 b] (Blk.new wd _ _) rfl (by simp [Value.oneCell']) (by omega) (by omega) (by omega) 139
                have kA : Below W.heap.size wd w' := ((Below.refl _ wd).alloc hWrS _).trans (hB2.mono (by omega))
                have bF3 : Blk w' W.heap.size 138 (flags (l' ++ rl ++ [(a, b)])) := (bF2.alloc _).below hB2 (by omega)
                have hg3 : gbox w' gb g r N hn hl A m c ws := hgS.under kA gbL gL rL
                have HJ3 : Hid (J (l'.take (i + 1)) w') := HJ.out _ _ _ HJS.out kA
                have hWr3 := Nat.le_trans hWrS kA.size
                clear hownS bF2 hgS HJS hWrS b6S kA hgr hB2
                go_wp2_with (at_builtin; refine app_run rfl (.tmp 61) (.tmp 63) 139 rfl _ _ rfl rfl hrun ?_)
                go_roundw
                case rel =>
                  refine ⟨k + 1, rl ++ [(a, b)], by go_num, by omega, ?_, by rw [← List.append_assoc]; exact bF3, hg3, ?_, ?_, HJ3, hWr3⟩
                  · have e : (l' ++ (rl ++ [(a, b)])).length - i = L + 1 := by rw [← List.append_assoc, List.length_append]; have := Hls.out; simp only [List.length_cons, List.length_nil]; omega
                    rw [e, ← List.append_assoc, List.drop_append_of_le_length (by omega), pcells_append]; exact hown2
                  · have h2 := hF2.step Hok.out k (n := x1)
                    rwa [ordStep_fresh, HQ.out, Hfr.out, Bool.not_false, if_pos rfl, List.append_assoc] at h2
                  · show _ = _
                    rw [Hn.out, ordFrom_step _ _ _ _ hk4, ordStep_fresh, HQ.out, Hfr.out, Bool.not_false, if_pos rfl, List.append_assoc]; rfl
                case measure => simp [intOf]; omega
              · go_wp2
                go_roundw
                case rel =>
                  refine ⟨k + 1, rl, by go_num, by omega, by rw [Hls.out]; exact hown', bF', hgb', hF2, ?_, HJ', hWr'⟩
                  show _ = _
                  rw [Hn.out, ordFrom_step _ _ _ _ hk4, ordStep_fresh, HQ.out, Hfr.out]; rfl
                case measure => simp [intOf]; omega
        · obtain rfl : 4 = k := by omega
          obtain ⟨n1, hn1⟩ : ∃ n1, (l' ++ rl).length - i = n1 + 1 := ⟨(l' ++ rl).length - i - 1, by omega⟩
          rw [hn1] at hown hq3 hqc ⊢
          have hown2 := hown.tail
          rw [pcells_drop] at hown2
          have H2 := Lib.hid hown2; clear hown2
          have h1c : (1 : Int) ≤ (cap : Int) := by omega
          have h1n : (1 : Int) ≤ ((n1 + 1 : Nat) : Int) := by omega
          have hn9 : n1 ≤ 8 := by omega
          clear hqc hq2
          go_wp2
          have e1n : ((1 : Int) ≤ (cap : Int)) := by omega
          by_cases hc1 : cap = 1
          · have h2c := H2.out
            rw [if_pos hc1] at h2c
            subst hc1
            obtain rfl : n1 = 0 := by omega
            have H3 := Lib.hid h2c; clear h2c H2
            gi_wp2
            gi_roundg (9 - (i + 1))
            case measure => omega
            case rel =>
              refine ⟨i + 1, l' ++ rl, by omega, by omega, (by rw [show (l' ++ rl).length - (i + 1) = 0 from by omega]; exact H3.out), bF, hgb, hF2, ?_, ?_, hWr⟩
              · show _ = _
                rw [Hord.out, show 9 - i = 9 - (i + 1) + 1 from by omega, ordL_step HX.out, Hn.out, ordFrom_four]
              · rw [List.take_append_of_le_length (by omega)]; exact HJ1
          · have h2c := H2.out
            rw [if_neg hc1] at h2c
            have H3 := Lib.hid h2c; clear h2c H2
            gi_wp2
            gi_roundg (9 - (i + 1))
            case measure => omega
            case rel =>
              refine ⟨i + 1, l' ++ rl, by omega, by omega, (by rw [show (l' ++ rl).length - (i + 1) = n1 from by omega]; exact H3.out), bF, hgb, hF2, ?_, ?_, hWr⟩
              · show _ = _
                rw [Hord.out, show 9 - i = 9 - (i + 1) + 1 from by omega, ordL_step HX.out, Hn.out, ordFrom_four]
              · rw [List.take_append_of_le_length (by omega)]; exact HJ1
    · obtain rfl : l'.length = i := by omega
      rw [Nat.sub_self] at hown hq3 hqc ⊢
      gi_wp2
      go_end0
      refine ⟨⟨_, rfl⟩, ?_⟩
      rw [Hord.out, ordL_end (Nat.le_refl _)]
      have h := HJl.out
      rwa [List.take_of_length_le (Nat.le_refl _)] at h
end Go.Proofs.Ytekamebpjjkifaa
