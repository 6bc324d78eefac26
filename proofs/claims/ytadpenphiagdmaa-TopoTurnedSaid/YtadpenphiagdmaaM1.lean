/- A map from ports to ports, as a list of pairs; its lookups, and a new entry. -/
import Derived.Test.YtadpenphiagdmaaW11
import Derived.RangeFuncRecord
namespace Go.Proofs.Ytadpenphiagdmaa
open Go.RowKit
set_option linter.unusedVariables false
set_option linter.unusedSimpArgs false

def pent (p : Pt × Pt) (i : Nat) : MapEntry := ⟨ptV p.1, ptV p.2, i⟩
def entsFrom : Nat → List (Pt × Pt) → List MapEntry
  | _, [] => []
  | i, p :: r => pent p i :: entsFrom (i + 1) r
def ents (E : List (Pt × Pt)) : Array MapEntry := (entsFrom 0 E).toArray
def MapIs (w : World) (b : Nat) (E : List (Pt × Pt)) : Prop := w.heap[b]? = some (.map (ents E) E.length)
def lookL (E : List (Pt × Pt)) (k : Pt) : Option Pt := (E.find? (fun p => portEq k.1 k.2 p.1.1 p.1.2)).map (·.2)
def findE (k : Pt) : List (Pt × Pt) → Nat → Option (Nat × Value)
  | [], _ => none
  | p :: r, j => if portEq k.1 k.2 p.1.1 p.1.2 then some (j, ptV p.2) else findE k r (j + 1)

theorem entsFrom_length (i : Nat) (E : List (Pt × Pt)) : (entsFrom i E).length = E.length := by
  induction E generalizing i with
  | nil => rfl
  | cons p r ih => simp [entsFrom, ih]
theorem entsFrom_append (i : Nat) (E F : List (Pt × Pt)) : entsFrom i (E ++ F) = entsFrom i E ++ entsFrom (i + E.length) F := by
  induction E generalizing i with
  | nil => simp [entsFrom]
  | cons p r ih => simp only [List.cons_append, entsFrom, ih, List.length_cons]; rw [show i + 1 + r.length = i + (r.length + 1) from by omega]
theorem findE_look (k : Pt) (E : List (Pt × Pt)) (j : Nat) : (findE k E j).map (·.2) = (lookL E k).map ptV := by
  induction E generalizing j with
  | nil => rfl
  | cons p r ih =>
    simp only [findE, lookL, List.find?_cons]
    cases portEq k.1 k.2 p.1.1 p.1.2
    · simpa [lookL] using ih (j + 1)
    · rfl
theorem run_findAsking (w : World) (k : Pt) : ∀ (E : List (Pt × Pt)) (i j : Nat), (Instr.findAsking 24 (ptV k) (entsFrom i E) j).run Try.prog w = .ok (findE k E j) w
  | [], i, j => by simp [Instr.findAsking, entsFrom, findE]
  | p :: r, i, j => by
    have h := port_eqIn w 9998 k.1 k.2 p.1.1 p.1.2
    simp only [Instr.findAsking, entsFrom, pent, findE, Op.equal, Op.maxDepth, Sem.run_bind]
    rw [show (Op.equalIn 10000 24 (ptV k) (ptV p.1)).run Try.prog w = .ok (portEq k.1 k.2 p.1.1 p.1.2) w from h]
    simp only [Result.andThen_ok]
    cases portEq k.1 k.2 p.1.1 p.1.2
    · exact run_findAsking w k r (i + 1) (j + 1)
    · simp
theorem u24 : ∃ fs, Try.prog.underlying 24 = some (.struct fs) := ⟨_, Try.underlying24⟩
theorem run_findKey24 (w : World) (k : Pt) (E : List (Pt × Pt)) : (Instr.findKey 24 (ptV k) (entsFrom 0 E)).run Try.prog w = .ok (findE k E 0) w := by
  obtain ⟨fs, hf⟩ := u24
  simp only [Instr.findKey, Sem.run_bind, run_underlying hf, Result.andThen_ok]
  cases E with
  | nil => simp [entsFrom, Instr.findNow, findE]
  | cons p r =>
    have : Instr.findNow (.struct fs) (ptV k) (entsFrom 0 (p :: r)) 0 = none := rfl
    rw [this]
    exact run_findAsking w k (p :: r) 0 0
theorem run_check24 (w : World) (em : Bool) (k : Pt) : (Instr.checkKey em 10000 24 (ptV k)).run Try.prog w = .ok () w := by kernel_rfl
theorem run_zero24 (w : World) : (zeroValue 24).run Try.prog w = .ok (ptV (0, 0)) w := by kernel_rfl

theorem run_getMap {w : World} {b : Nat} {E : List (Pt × Pt)} (h : MapIs w b E) : (getObj b).run Try.prog w = .ok (.map (ents E) E.length) w := by
  unfold MapIs at h
  simp [getObj, Sem.run, h]
theorem run_setMap {w : World} {b : Nat} {E : List (Pt × Pt)} (h : MapIs w b E) (o : Obj) : (setObj b o).run Try.prog w = .ok () (w.putObj b o) := by
  unfold MapIs at h
  simp [setObj, Sem.run, h, World.putObj]
theorem findE_none {k : Pt} {E : List (Pt × Pt)} {j : Nat} : lookL E k = none ↔ findE k E j = none := by
  have := findE_look k E j
  cases h1 : findE k E j <;> cases h2 : lookL E k <;> simp_all

theorem run_lookup61 {w : World} {b : Nat} {E : List (Pt × Pt)} (h : MapIs w b E) (x y : Int) :
    (Instr.lookup 61 (.map (some b)) (.agg #[.int .i64 x, .int .i64 y]) true).run Try.prog w = .ok (peerV (lookL E (x, y))) w := by
  have hc := run_check24 w (ents E).isEmpty (x, y)
  have hf := run_findKey24 w (x, y) E
  have hz := run_zero24 w
  have hl := findE_look (x, y) E 0
  simp only [ptV] at hc hf hz
  simp only [Instr.lookup, Sem.run_bind, run_underlying Try.underlying61, Result.andThen_ok, run_getMap h, Sem.run_pure, hc, ents, hf] at *
  cases h1 : findE (x, y) E 0 with
  | none =>
    have h2 := findE_none.2 h1
    simp [h2, hz, peerV]
  | some r =>
    rw [h1] at hl
    cases h2 : lookL E (x, y) with
    | none => rw [h2] at hl; cases hl
    | some q =>
      rw [h2] at hl
      obtain ⟨i, v⟩ := r
      simp at hl
      subst hl
      simp [peerV, ptV]

theorem run_entry61 {w : World} {b : Nat} {E : List (Pt × Pt)} (h : MapIs w b E) {x y : Int} (hn : lookL E (x, y) = none) :
    (Instr.mapEntry 61 (.map (some b)) (.agg #[.int .i64 x, .int .i64 y])).run Try.prog w = .ok (.tuple #[.agg #[.int .i64 0, .int .i64 0], .int .i64 (E.length : Nat)]) (w.putObj b (.map (ents (E ++ [((x, y), (0, 0))])) (E.length + 1))) := by
  have hc := run_check24 w false (x, y)
  have hf := run_findKey24 w (x, y) E
  have hz := run_zero24 w
  rw [findE_none.1 hn] at hf
  simp only [ptV] at hc hf hz
  have he : (ents E).push { key := .agg #[.int .i64 x, .int .i64 y], val := .agg #[.int .i64 0, .int .i64 0], born := E.length } = ents (E ++ [((x, y), (0, 0))]) := by
    simp only [ents, entsFrom_append, List.push_toArray, Nat.zero_add]; rfl
  have hp : (entsFrom 0 E ++ [{ key := .agg #[.int .i64 x, .int .i64 y], val := .agg #[.int .i64 0, .int .i64 0], born := E.length }] : List MapEntry) = entsFrom 0 (E ++ [((x, y), (0, 0))]) := by
    rw [entsFrom_append, Nat.zero_add]; rfl
  simp only [Instr.mapEntry, Sem.run_bind, run_underlying Try.underlying61, Result.andThen_ok, run_getMap h, hc]
  simp only [ents] at *
  rw [hf]
  simp [hz, run_setMap h, goInt, hp]

theorem MapIs.put {w : World} {b : Nat} {E F : List (Pt × Pt)} (h : MapIs w b E) : MapIs (w.putObj b (.map (ents F) F.length)) b F :=
  World.putObj_heap_same (Array.getElem?_eq_some_iff.1 h).1

theorem run_estore61 {w : World} {b : Nat} {E : List (Pt × Pt)} {k z v : Pt} (h : MapIs w b (E ++ [(k, z)])) :
    (Instr.entryStore 61 (.map (some b)) (.int .i64 (E.length : Nat)) (.agg #[.int .i64 v.1, .int .i64 v.2])).run Try.prog w = .ok () (w.putObj b (.map (ents (E ++ [(k, v)])) (E.length + 1))) := by
  have hb : ∀ (E : List (Pt × Pt)) (i n : Nat), i + E.length = n → (entsFrom i E ++ [pent (k, z) n]).findIdx? (fun e => (e.born : Int) == (n : Int)) = some E.length := by
    intro E
    induction E with
    | nil => intro i n hn; simp [entsFrom, pent]
    | cons p r ih =>
      intro i n hn
      simp only [List.length_cons] at hn
      have := ih (i + 1) n (by omega)
      simp only [entsFrom, List.cons_append, List.findIdx?_cons, pent]
      rw [if_neg (by simp; omega)]
      simp only [pent] at this
      rw [this]; rfl
  have hidx : (ents (E ++ [(k, z)])).findIdx? (fun e => (e.born : Int) == (E.length : Int)) = some E.length := by
    have h1 := hb E 0 E.length (by omega)
    simp only [ents, List.findIdx?_toArray, entsFrom_append, Nat.zero_add]
    exact h1
  have hmod : (ents (E ++ [(k, z)])).modify E.length (fun e => { e with val := .agg #[.int .i64 v.1, .int .i64 v.2] }) = ents (E ++ [(k, v)]) := by
    have hl : (entsFrom 0 E).length = E.length := entsFrom_length 0 E
    simp only [ents, entsFrom_append, Nat.zero_add, List.modify_toArray]
    congr 1
    refine List.ext_getElem? fun n => ?_
    rw [List.getElem?_modify]
    rcases Nat.lt_trichotomy n E.length with hn | hn | hn
    · have hne : ¬ E.length = n := by omega
      simp only [hne, if_false]
      rw [List.getElem?_append_left (by omega), List.getElem?_append_left (by omega)]; simp
    · subst hn
      rw [List.getElem?_append_right (by omega), List.getElem?_append_right (by omega), hl, Nat.sub_self]
      simp [entsFrom, pent, ptV]
    · have hne : ¬ E.length = n := by omega
      simp only [hne, if_false]
      rw [List.getElem?_append_right (by omega), List.getElem?_append_right (by omega), hl]
      obtain ⟨d, hd⟩ : ∃ d, n - E.length = d + 1 := ⟨n - E.length - 1, by omega⟩
      rw [hd]; simp [entsFrom]
  simp only [Instr.entryStore, Sem.run_bind, run_getMap h, Result.andThen_ok]
  simp [asInt, asIntOf, hidx, hmod, run_setMap h]
end Go.Proofs.Ytadpenphiagdmaa
