/- Texts that belong together, joined: what each one holds is told ahead of it. -/
import Derived.Test.YtbefmlioampgcaaDoorHK1
import Derived.Test.YtbefmlioampgcaaDoorHK4
import Derived.Test.YtbefmlioampgcaaDoorHI3
set_option linter.unusedVariables false
set_option linter.unusedSimpArgs false
/- A list of operations that call nothing, run by reckoning: for the long literals. -/
namespace Go.Proofs.YtbefmlioampgcaaDoor
open Go.RowKit
set_option linter.unusedVariables false
set_option linter.unusedSimpArgs false

def runOps (P : Program) : List Oper → Act → World → Option (Act × World)
  | [], a, w => some (a, w)
  | o :: r, a, w =>
    match o.guard with
    | some _ => none
    | none =>
      match (execOp a.eval o).run P w with
      | .ok (.value v) w' => runOps P r (a.put o.dst v) w'
      | .ok .skip w' => runOps P r (a.put o.dst undef) w'
      | _ => none
theorem wpList_runOps {P : Program} {ops : Array Oper} {Q : Exit → Act → World → Prop} : ∀ (l : List Oper) {a a' : Act} {w w' : World}, runOps P l a w = some (a', w') → Q .normal a' w' → wpList P ops Q l a w
  | [], a, a', w, w', h, hq => by
    simp only [runOps, Option.some.injEq, Prod.mk.injEq] at h
    obtain ⟨rfl, rfl⟩ := h
    exact hq
  | o :: r, a, a', w, w', h, hq => by
    rw [runOps] at h
    cases hg : o.guard with
    | some g => rw [hg] at h; cases h
    | none =>
      rw [hg] at h
      refine wpList_plain hg fun K hK => ?_
      unfold Oper.wp
      cases hr : (execOp a.eval o).run P w with
      | ok x w1 =>
        rw [hr] at h
        cases x with
        | value v => exact hK _ _ (wpList_runOps r h hq)
        | skip => exact hK _ _ (wpList_runOps r h hq)
        | _ => cases h
      | halt x w1 => rw [hr] at h; cases h
theorem wp_region_runOps {P : Program} {id : Nat} {Q : Exit → Act → World → Prop} {a a' : Act} {w w' : World} {l : List Oper} (h : runOps P l a w = some (a', w')) (hq : Q .normal a' w') : (Code.region id l.toArray false).wp P Q a w := by
  refine wp_region ?_
  have e : List.range l.toArray.size = List.range' 0 l.length := by rw [List.range_eq_range']; simp
  rw [e, wpOps_eq_wpList (ops := l.toArray) l 0 (fun j => by simp)]
  exact wpList_runOps l h hq
/-- .. of which one slot is asked. -/
theorem wp_region_slot {P : Program} {id s : Nat} {v : Value} {Q : Exit → Act → World → Prop} {a : Act} {w w' : World} {l : List Oper}
    (h : (runOps P l a w).map (fun x => (x.1.tmps.getD s undef, x.1.defers, x.2)) = some (v, [], w')) (hq : ∀ t : Array Value, t.getD s undef = v → Q .normal { tmps := t, defers := [] } w') : (Code.region id l.toArray false).wp P Q a w := by
  obtain ⟨⟨⟨t, d⟩, w1⟩, h1, h2⟩ := Option.map_eq_some_iff.1 h
  simp only [Prod.mk.injEq] at h2
  obtain ⟨h3, h4, h5⟩ := h2
  subst h4 h5
  exact wp_region_runOps h1 (hq t h3)
end Go.Proofs.YtbefmlioampgcaaDoor

/- The reference's tables, walked. -/
namespace Go.Proofs.YtbefmlioampgcaaDoor
open Go.RowKit
set_option linter.unusedVariables false
set_option linter.unusedSimpArgs false

def rowCells (r : IRow) : List Value := [.int .u8 r.fn, .int .i32 r.arg, .string (strB r.name), .int .i64 r.takes, .int .i64 r.leaves]
def rowsV (l : List IRow) : Array Value := (l.flatMap rowCells).toArray
end Go.Proofs.YtbefmlioampgcaaDoor

/- The reference's Find, walked. -/
namespace Go.Proofs.YtbefmlioampgcaaDoor
open Go.RowKit
set_option linter.unusedVariables false
set_option linter.unusedSimpArgs false

def rowA (r : IRow) : Value := .agg #[.int .u8 r.fn, .int .i32 r.arg, .string (strB r.name), .int .i64 r.takes, .int .i64 r.leaves]
/-- A row, or none, as Find hands it back. -/
def rowR (o : Option IRow) : Value := .tuple #[rowA (o.getD irow0), .bool o.isSome]
theorem rowsV_at {l : List IRow} {k : Nat} {r : IRow} (h : l[k]? = some r) : (rowsV l)[k * 5]? = some (.int .u8 r.fn) ∧ (rowsV l)[k * 5 + 1]? = some (.int .i32 r.arg) ∧ (rowsV l)[k * 5 + 2]? = some (.string (strB r.name)) ∧
    (rowsV l)[k * 5 + 3]? = some (.int .i64 r.takes) ∧ (rowsV l)[k * 5 + 4]? = some (.int .i64 r.leaves) := by
  have hg : ∀ j v, (rowCells r)[j]? = some v → (rowsV l)[k * 5 + j]? = some v := by
    intro j v hv
    have hj : j < 5 := by
      have := (List.getElem?_eq_some_iff.1 hv).1
      simpa [rowCells] using this
    have : ∀ (l : List IRow) (k : Nat), l[k]? = some r → (l.flatMap rowCells)[k * 5 + j]? = some v := by
      intro l
      induction l with
      | nil => intro k h; simp at h
      | cons x l ih =>
        intro k h
        cases k with
        | zero =>
          simp at h; subst h
          rw [List.flatMap_cons, List.getElem?_append_left (by simp [rowCells]; omega)]
          simpa using hv
        | succ k =>
          rw [List.flatMap_cons, List.getElem?_append_right (by simp [rowCells]; omega)]
          have e : (k + 1) * 5 + j - (rowCells x).length = k * 5 + j := by simp [rowCells]; omega
          rw [e]
          exact ih k (by simpa using h)
    simp only [rowsV, List.getElem?_toArray]
    exact this l k h
  exact ⟨hg 0 _ rfl, hg 1 _ rfl, hg 2 _ rfl, hg 3 _ rfl, hg 4 _ rfl⟩
end Go.Proofs.YtbefmlioampgcaaDoor

/- The program's row of a function: walked. -/
namespace Go.Proofs.YtbefmlioampgcaaDoor
open Go.RowKit
set_option linter.unusedVariables false
set_option linter.unusedSimpArgs false

/-- The mnemonics of the functions, as the program lays them. -/
def fnL : List (List UInt8) := [[106], [108, 100, 108, 112], [], [108, 100, 110, 108], [108, 100, 99], [108, 100, 110, 108, 112], [], [108, 100, 108], [97, 100, 99], [99, 97, 108, 108], [99, 106], [97, 106, 119], [101, 113, 99], [115, 116, 108], [115, 116, 110, 108], []]
def fnGL : Nat := 0
def fnV : Array Value := (fnL.map fun l => Value.string (strB l)).toArray
def FnsAt (w : World) : Prop := ∃ t fr, w.heap[fnGL]? = some (.cells fnV t fr)
theorem FnsAt.cell {w : World} (h : FnsAt w) {i : Nat} {s : List UInt8} (hi : fnL[i]? = some s) : w.cell? ⟨fnGL, i, none⟩ = some (.string (strB s)) := by
  obtain ⟨t, fr, h⟩ := h
  rw [cell_of_row w fnGL i fnV t fr h]
  simp [fnV, hi]
theorem FnsAt.lt {w : World} (h : FnsAt w) : fnGL < w.heap.size := by
  obtain ⟨t, fr, h⟩ := h
  exact (Array.getElem?_eq_some_iff.1 h).1
/-- What the package-level variables hold, in every world that keeps what lies below B. -/
def Laid5 (B : Nat) (w : World) : Prop := Laid B w ∧ Blanks B w ∧ ∀ w', Below B w w' → FnsAt w'
theorem Laid5.on {B : Nat} {w w1 : World} (h : Laid5 B w) (hb : Below B w w1) : Laid5 B w1 :=
  ⟨h.1.on hb, fun w' h' => h.2.1 w' (hb.trans h'), fun w' h' => h.2.2 w' (hb.trans h')⟩
theorem Laid5.call {B : Nat} {w w1 : World} (h : Laid5 B w) (hb : Below w.heap.size w w1) (hB : B ≤ w.heap.size) : Laid5 B w1 := h.on (hb.mono hB)
theorem Laid5.fns {B : Nat} {w : World} (h : Laid5 B w) : FnsAt w := h.2.2 w (Below.refl _ _)

def usesL : List UInt8 := [48, 48, 32, 48, 49, 32, 46, 46, 32, 49, 49, 32, 48, 49, 32, 49, 49, 32, 46, 46, 32, 48, 49, 32, 49, 49, 32, 51, 49, 32, 49, 48, 32, 48, 48, 32, 49, 49, 32, 49, 48, 32, 50, 48]
theorem fns_spec : ∀ n, n < 16 → (tabF.find? (fun r => r.fn == n)).map (·.name) = (if fnL[n]? = some [] then none else fnL[n]?) := by decide
theorem uses_spec : ∀ r ∈ tabF, (usesL.drop (3 * r.fn)).head? = some (dig r.takes) ∧ (usesL.drop (3 * r.fn))[1]? = some (dig r.leaves) ∧ fnL[r.fn]? = some r.name ∧ 3 * r.fn + 1 < 44 := by decide
theorem uses_ext (n : Nat) : ((⟨#[48, 48, 32, 48, 49, 32, 46, 46, 32, 49, 49, 32, 48, 49, 32, 49, 49, 32, 46, 46, 32, 48, 49, 32, 49, 49, 32, 51, 49, 32, 49, 48, 32, 48, 48, 32, 49, 49, 32, 49, 48, 32, 50, 48]⟩ : ByteArray).extract (3 * n) 44).data.toList = usesL.drop (3 * n) := by
  have h := ext_drop ⟨#[48, 48, 32, 48, 49, 32, 46, 46, 32, 49, 49, 32, 48, 49, 32, 49, 49, 32, 46, 46, 32, 48, 49, 32, 49, 49, 32, 51, 49, 32, 49, 48, 32, 48, 48, 32, 49, 49, 32, 49, 48, 32, 50, 48]⟩ (3 * n)
  have e : (⟨#[48, 48, 32, 48, 49, 32, 46, 46, 32, 49, 49, 32, 48, 49, 32, 49, 49, 32, 46, 46, 32, 48, 49, 32, 49, 49, 32, 51, 49, 32, 49, 48, 32, 48, 48, 32, 49, 49, 32, 49, 48, 32, 50, 48]⟩ : ByteArray).size = 44 := rfl
  rw [e] at h
  rw [h]
  rfl
/-- A row, or none, as the program hands it back. -/
def rowP (o : Option IRow) : Value := .tuple #[rowV (o.getD irow0), .bool o.isSome]
theorem findF_row {n : Nat} {arg : Int} {r : IRow} (h : r ∈ tabF) (hn : r.fn = n) : findI n arg = some r := by
  have h15 : ¬ (n : Int) = 15 := by have := (tabF_ok r h).1; omega
  unfold findI
  rw [if_neg h15]
  have := find_nodup (fun q : IRow => q.fn) tabF fns_nodup r h
  have e : (fun q : IRow => ((q.fn : Nat) : Int) == (n : Int)) = fun q => q.fn == r.fn := by
    funext q; rw [Bool.eq_iff_iff]; simp; omega
  rw [e]; exact this

set_option maxRecDepth 100000 in
theorem pFindF (n : Nat) (arg : Int) (r : IRow) (hr : r ∈ tabF) (hn : r.fn = n) (w : World) (hL : FnsAt w) :
    Calls Tryd.prog 44 #[.agg #[.int .u8 n, .int .i32 arg]] w (RetV (rowP (findI n arg)) w) := by
  rw [findF_row hr hn]
  obtain ⟨u0, u1, u2, u3⟩ := uses_spec r hr
  rw [hn] at u0 u1 u2 u3
  obtain ⟨t1, t2, t3, t4, t5, t6, t7, t8⟩ := tabF_ok r hr
  have c0 : w.cell? ⟨0, n, none⟩ = some (.string (strB r.name)) := hL.cell u2
  have hg' : 0 < w.heap.size := hL.lt
  have hlt : n < 16 := by omega
  have hltI : (n : Int) < 16 := by omega
  have hn0 : (0 : Int) ≤ n := by omega
  have hV : rowP (some r) = .tuple #[.agg #[.int .i32 r.arg, .string (strB r.name), .int .i64 r.takes, .int .i64 r.leaves], .bool true] := rfl
  rw [hV, t2]
  have hne3 : (strB r.name).toList.isEmpty = false := by
    rw [ByteArray.toList_eq]
    cases h : r.name with
    | nil => exact absurd h t3
    | cons c l => rfl
  obtain ⟨S, hS⟩ : ∃ S, (⟨#[48, 48, 32, 48, 49, 32, 46, 46, 32, 49, 49, 32, 48, 49, 32, 49, 49, 32, 46, 46, 32, 48, 49, 32, 49, 49, 32, 51, 49, 32, 49, 48, 32, 48, 48, 32, 49, 49, 32, 49, 48, 32, 50, 48]⟩ : ByteArray).extract (3 * n) 44 = S := ⟨_, rfl⟩
  have hSd : S.data.toList = usesL.drop (3 * n) := by
    rw [← hS]; exact uses_ext n
  rw [← hSd] at u0 u1
  have hx1 : 1 < S.size := by
    have h := (List.getElem?_eq_some_iff.1 u1).1
    rw [Array.length_toList] at h
    exact h
  have hx0 : 0 < S.size := by omega
  have X0 : S[0] = dig r.takes := str_at (by rw [List.head?_eq_getElem?] at u0; simpa using u0) hx0
  have X1 : S[1] = dig r.leaves := str_at (by simpa using u1) hx1
  have HS := Lib.hid hS
  have hD := Lib.hid (fun d (h : d < 16) w => idigitq d h w)
  generalize hNM : strB r.name = NM at *
  generalize r.takes = dt at *
  generalize r.leaves = dl at *
  clear u0 u1 u2 hS hSd hL hNM hV t1 t2 t3 t4 t5 t8 hr hn
  go_enter Tryd.func44, Tryd.ntmps44
  go_wp2
  go_step3
  go_upto_region 3 with (fail)
  rw [HS.out]
  clear HS
  refine wp_region_quiet_tail 13 (by kernel_rfl) (by kernel_rfl) ?_
  simp only [List.take_succ_cons, List.take_zero, List.drop_succ_cons, List.drop_zero]
  repeat (first
          | go_big_quiet_step (fail)
          | (go_big_quiet_want; go_big_quiet_op; apply Exists.intro; refine ⟨?_, ?_⟩; (exact hD.out _ (by omega) _); go_big_quiet_on))
  refine wpQuiet_nil ?_
  go_wp2
  rw [Exit.noGoto_ret]
  refine bodyPost_ret (v := .tuple #[.agg #[.int .i32 0, .string NM, .int .i64 dt, .int .i64 dl], .bool true]) (by simp [results, Tryd.results44, go_sem]) rfl ⟨rfl, ?_⟩
  exact (((((Below.refl _ w).alloc (Nat.le_refl _) _).alloc (by simp) _).alloc (by simp <;> omega) _)).drew

set_option maxRecDepth 100000 in
theorem pFindN (n : Nat) (arg : Int) (hn : n < 256) (h15 : n ≠ 15) (hno : findI n arg = none) (w : World) (hL : FnsAt w) :
    Calls Tryd.prog 44 #[.agg #[.int .u8 n, .int .i32 arg]] w (RetV (rowP (findI n arg)) w) := by
  rw [hno]
  have hV : rowP none = .tuple #[.agg #[.int .i32 0, .string ⟨#[]⟩, .int .i64 0, .int .i64 0], .bool false] := rfl
  rw [hV]
  have h15b : ((n : Int) != 15) = true := by simp; omega
  have hg' : 0 < w.heap.size := hL.lt
  by_cases hlt : n < 16
  · have c0 : w.cell? ⟨0, n, none⟩ = some (.string ⟨#[]⟩) := by
      have h := fns_spec n hlt
      have hs : fnL[n]? = some [] := by
        cases hf : tabF.find? (fun r => r.fn == n) with
        | none => rw [hf] at h; by_cases h0 : fnL[n]? = some []
                  · exact h0
                  · rw [if_neg h0] at h
                    have : fnL[n]? = some (fnL[n]'hlt) := List.getElem?_eq_getElem hlt
                    rw [this] at h; cases h
        | some r =>
          exfalso
          have hm := List.mem_of_find?_eq_some hf
          have hp := List.find?_some hf
          rw [findF_row hm (by simpa using hp)] at hno
          cases hno
      exact hL.cell hs
    have hltI : (n : Int) < 16 := by omega
    have hn0 : (0 : Int) ≤ n := by omega
    clear hL hno
    go_enter Tryd.func44, Tryd.ntmps44
    go_wp2
    go_step3
    go_wp2
    rw [Exit.noGoto_ret]
    refine bodyPost_ret (v := .tuple #[.agg #[.int .i32 0, .string ⟨#[]⟩, .int .i64 0, .int .i64 0], .bool false]) (by simp [results, Tryd.results44, go_sem]) rfl ⟨rfl, ?_⟩
    exact (((((Below.refl _ w).alloc (Nat.le_refl _) _).alloc (by simp) _).alloc (by simp <;> omega) _))
  · have hltI : ¬ (n : Int) < 16 := by omega
    clear hL hno
    go_enter Tryd.func44, Tryd.ntmps44
    go_wp2
    go_step3
    go_wp2
    try rw [Exit.noGoto_ret]
    refine bodyPost_ret (v := .tuple #[.agg #[.int .i32 0, .string ⟨#[]⟩, .int .i64 0, .int .i64 0], .bool false]) (by simp [results, Tryd.results44, go_sem]) rfl ⟨rfl, ?_⟩
    exact (((((Below.refl _ w).alloc (Nat.le_refl _) _).alloc (by simp) _).alloc (by simp <;> omega) _))
end Go.Proofs.YtbefmlioampgcaaDoor

/- The program's row of an operation: a range over the rows, left at the first that fits. -/
namespace Go.Proofs.YtbefmlioampgcaaDoor
open Go.RowKit Go.Shelf
attribute [local go_sem] Oper.semAt_some

theorem seqUntil_rows (n B : Nat) (w : World) (hBl : Blanks B w) (hB : B ≤ w.heap.size) (X : Nat → Prop) (hX : ∀ k, X k → k < w.heap.size) :
    SeqUntil Fence.wide n Tryd.prog 103 #[] (fun r : IRow => #[rowV r]) X tabO w := rows_iter n X w hX B hBl hB
def rowC (r : IRow) : Array Value := #[.int .i32 r.arg, .string (strB r.name), .int .i64 r.takes, .int .i64 r.leaves]
set_option maxRecDepth 100000 in
set_option maxHeartbeats 2000000 in
theorem pFindO (arg : Int) (B : Nat) (w : World) (hL : Laid5 B w) (hB : B ≤ w.heap.size) :
    Calls Tryd.prog 44 #[.agg #[.int .u8 15, .int .i32 arg]] w (RetV (rowP (findI 15 arg)) w) := by
  have hF : findI 15 arg = tabO.find? fun r => (r.arg : Int) == arg := by unfold findI; rw [if_pos rfl]
  have HF := Lib.hid hF
  have c0 : w.cell? ⟨0, 15, none⟩ = some (.string ⟨#[]⟩) := hL.fns.cell rfl
  have hg' : 0 < w.heap.size := hL.fns.lt
  have HL := Lib.hid hL
  clear hF hL
  refine (callsIn_wide (n := 9)).1 ?_
  refine callsIn_of_wp_marks Tryd.func44 rfl trivial ?_ rfl
  refine wpIn_wide.2 ?_
  simp only [Tryd.ntmps44, List.size_toArray, List.length_cons, List.length_nil, Nat.reduceAdd, Nat.reduceSub, Array.replicate_succ, Array.replicate_zero, List.push_toArray, List.append_toArray, List.nil_append, List.cons_append]
  go_wp2
  go_step3
  go_wp2
  go_step3
  go_wp2_with (go_at_call 79; refine (irows _).mono ?_; rintro e w' ⟨rfl, rfl⟩)
  obtain ⟨W0, hW0⟩ : ∃ W0, ((w.alloc (Obj.cells #[.int .u8 15, .int .i32 arg] 60)).alloc (Obj.cells #[.int .i32 0, .string ⟨#[]⟩, .int .i64 0, .int .i64 0] 102)).alloc (Obj.cells #[.bool false] 4) = W0 := ⟨_, rfl⟩
  have b1 : Blk W0 w.heap.size 60 #[.int .u8 15, .int .i32 arg] := by rw [← hW0]; exact ((Blk.new w _ _).alloc _).alloc _
  have b2 : Blk W0 (w.heap.size + 1) 102 (rowC irow0) := by
    rw [← hW0]; have h := (Blk.new (w.alloc (Obj.cells #[.int .u8 15, .int .i32 arg] 60)) 102 (rowC irow0)).alloc (Obj.cells #[.bool false] 4); rwa [World.size_alloc] at h
  have b3 : Blk W0 (w.heap.size + 2) 4 #[.bool false] := by
    rw [← hW0]; have h := Blk.new ((w.alloc (Obj.cells #[.int .u8 15, .int .i32 arg] 60)).alloc (Obj.cells #[.int .i32 0, .string ⟨#[]⟩, .int .i64 0, .int .i64 0] 102)) 4 #[.bool false]; rwa [World.size_alloc, World.size_alloc] at h
  have kB : Below w.heap.size w W0 := by rw [← hW0]; exact (((Below.refl _ w).alloc (Nat.le_refl _) _).alloc (by simp) _).alloc (by simp <;> omega) _
  have hsz : W0.heap.size = w.heap.size + 3 := by rw [← hW0]; simp
  rw [hW0]
  clear hW0
  have hBl : Blanks B W0 := (HL.out.on (kB.mono hB)).2.1
  refine wpIn_wide.1 (wpIn_range_until (F := Fence.wide) (n := 9) rfl rfl (gf := 103) (lb := #[]) rfl trivial (enters_of Tryd.func103 (by kernel_rfl) rfl) (X := fun k => w.heap.size ≤ k ∧ k < w.heap.size + 3) (encs := fun r : IRow => #[rowV r])
    (seqUntil_rows 8 B W0 hBl (by omega) _ (by rintro k ⟨_, _⟩; omega)) (Below.refl _ _) (fun _ => rfl)
    (fun pre W => Blk W w.heap.size 60 #[.int .u8 15, .int .i32 arg] ∧ (∃ q, Blk W (w.heap.size + 1) 102 (rowC q)) ∧ Blk W (w.heap.size + 2) 4 #[.bool false] ∧ Below w.heap.size w W ∧ ∀ q ∈ pre, (q.arg : Int) ≠ arg)
    (fun c pre W => c = .exit 0 ∧ ∃ pre' q, pre = pre' ++ [q] ∧ (∀ q ∈ pre', (q.arg : Int) ≠ arg) ∧ (q.arg : Int) = arg ∧ Blk W (w.heap.size + 1) 102 (rowC q) ∧ Blk W (w.heap.size + 2) 4 #[.bool true] ∧ Below w.heap.size w W)
    ?deep ?deepx ⟨b1, ⟨_, b2⟩, b3, kB, by simp⟩ ?round ?done ?stop)
  case deep => exact fun s A B ⟨h1, ⟨q, h2⟩, h3, h4, h5⟩ k => ⟨h1.below k (by omega), ⟨q, h2.below k (by omega)⟩, h3.below k (by omega), h4.trans (k.mono (by omega)), h5⟩
  case deepx => exact fun c s A B ⟨h1, p, q, e1, e2, e3, h2, h3, h4⟩ k => ⟨h1, p, q, e1, e2, e3, h2.below k (by omega), h3.below k (by omega), h4.trans (k.mono (by omega))⟩
  case round =>
    clear b1 b2 b3 kB
    rintro l pre x r W ⟨b1, ⟨q, b2⟩, b3, kB, hno⟩ hxs hsW
    have hV : rowV x = .agg #[.int .i32 x.arg, .string (strB x.name), .int .i64 x.takes, .int .i64 x.leaves] := rfl
    rw [hV]
    have hC : rowC x = #[.int .i32 x.arg, .string (strB x.name), .int .i64 x.takes, .int .i64 x.leaves] := rfl
    have HC := Lib.hid hC
    clear hV hC
    generalize strB x.name = NM at *
    generalize x.takes = dt at *
    generalize x.leaves = dl at *
    generalize hxa : x.arg = xa at *
    have HXA := Lib.hid hxa
    have HXS := Lib.hid hxs
    clear hxa hxs
    have b2' : Blk W (w.heap.size + 1) 102 #[.int .i32 q.arg, .string (strB q.name), .int .i64 q.takes, .int .i64 q.leaves] := b2
    have e20 := b2'.cell 0
    have e21 := b2'.cell 1
    have e22 := b2'.cell 2
    have e23 := b2'.cell 3
    simp at e20 e21 e22 e23
    have f20 := b2.frozen 0
    have f21 := b2.frozen 1
    have f22 := b2.frozen 2
    have f23 := b2.frozen 3
    have l2 := b2.lt
    gi_wp2
    have b2n : Blk ((((W.setCell ⟨w.heap.size + 1, 0, none⟩ (.int .i32 xa)).setCell ⟨w.heap.size + 1, 1, none⟩ (.string NM)).setCell ⟨w.heap.size + 1, 2, none⟩ (.int .i64 dt)).setCell ⟨w.heap.size + 1, 3, none⟩ (.int .i64 dl)) (w.heap.size + 1) 102 #[.int .i32 xa, .string NM, .int .i64 dt, .int .i64 dl] := by
      have h := (((b2'.set_ 0 (.int .i32 xa)).set_ 1 (.string NM)).set_ 2 (.int .i64 dt)).set_ 3 (.int .i64 dl)
      simpa using h
    have b1n := (((b1.far (p := ⟨w.heap.size + 1, 0, none⟩) (by simp) (.int .i32 xa)).far (p := ⟨w.heap.size + 1, 1, none⟩) (by simp) (.string NM)).far (p := ⟨w.heap.size + 1, 2, none⟩) (by simp) (.int .i64 dt)).far (p := ⟨w.heap.size + 1, 3, none⟩) (by simp) (.int .i64 dl)
    have b3n := (((b3.far (p := ⟨w.heap.size + 1, 0, none⟩) (by simp) (.int .i32 xa)).far (p := ⟨w.heap.size + 1, 1, none⟩) (by simp) (.string NM)).far (p := ⟨w.heap.size + 1, 2, none⟩) (by simp) (.int .i64 dt)).far (p := ⟨w.heap.size + 1, 3, none⟩) (by simp) (.int .i64 dl)
    have kBn : Below w.heap.size w ((((W.setCell ⟨w.heap.size + 1, 0, none⟩ (.int .i32 xa)).setCell ⟨w.heap.size + 1, 1, none⟩ (.string NM)).setCell ⟨w.heap.size + 1, 2, none⟩ (.int .i64 dt)).setCell ⟨w.heap.size + 1, 3, none⟩ (.int .i64 dl)) := (((kB.setCell (by simp) _).setCell (by simp) _).setCell (by simp) _).setCell (by simp) _
    refine ⟨(((KeepC.set _ _ (by simp) _).trans (KeepC.set _ _ (by simp) _)).trans (KeepC.set _ _ (by simp) _)).trans (KeepC.set _ _ (by simp) _), (((KeepsOthers.setCell _ _ _).trans (KeepsOthers.setCell _ _ _)).trans (KeepsOthers.setCell _ _ _)).trans (KeepsOthers.setCell _ _ _), ?_⟩
    obtain ⟨Wn, hWn⟩ : ∃ Wn, ((((W.setCell ⟨w.heap.size + 1, 0, none⟩ (.int .i32 xa)).setCell ⟨w.heap.size + 1, 1, none⟩ (.string NM)).setCell ⟨w.heap.size + 1, 2, none⟩ (.int .i64 dt)).setCell ⟨w.heap.size + 1, 3, none⟩ (.int .i64 dl)) = Wn := ⟨_, rfl⟩
    have hszn : W.heap.size = Wn.heap.size := by rw [← hWn]; simp
    rw [hWn] at b1n b2n b3n kBn ⊢
    clear hWn b1 b2 b2' b3 kB e20 e21 e22 e23 f20 f21 f22 f23
    rintro W2 hgr ⟨hl0, hl1⟩
    have hne : ∀ k, k < w.heap.size + 3 → some k ≠ some l := fun k hk e => by injection e; omega
    have b1 := b1n.grown hgr (hne _ (by omega))
    have b2 := b2n.grown hgr (hne _ (by omega))
    have b3 := b3n.grown hgr (hne _ (by omega))
    have kB : Below w.heap.size w W2 := kBn.grown hgr (by omega) (fun k e => by injection e; omega)
    clear b1n b2n b3n kBn hgr
    have c10 := b1.cell 0
    have c11 := b1.cell 1
    simp at c10 c11
    have e20 := b2.cell 0
    have e21 := b2.cell 1
    have e22 := b2.cell 2
    have e23 := b2.cell 3
    simp at e20 e21 e22 e23
    have c3 := b3.cell 0
    have f3 := b3.frozen 0
    simp at c3
    cases hm : ((xa : Int) == arg)
    · have hne2 : (x.arg : Int) ≠ arg := by rw [HXA.out]; simpa using hm
      have HN := Lib.hid (fun q hq => hno q hq)
      have HE := Lib.hid hne2
      clear hno hne2
      gi_wp2
      refine ⟨KeepC.refl _ _, KeepsOthers.refl _, b1, ⟨x, by rw [HC.out]; exact b2⟩, b3, kB, ?_⟩
      intro q hq
      rcases List.mem_append.1 hq with h | h
      · exact HN.out q h
      · rw [List.mem_singleton.1 h]; exact HE.out
    · have hne2 : (x.arg : Int) = arg := by rw [HXA.out]; simpa using hm
      have HN := Lib.hid (fun q hq => hno q hq)
      have HE := Lib.hid hne2
      clear hno hne2
      gi_wp2
      refine ⟨KeepsOthers.setCell _ _ _, rfl, pre, x, rfl, HN.out, HE.out, ?_, ?_, kB.setCell (by simp <;> omega) _⟩
      · rw [HC.out]; exact b2.far (by simp) _
      · exact b3.set_ 0 (.bool true)
  case done =>
    clear b1 b2 b3 kB
    rintro D W ⟨b1, ⟨q, b2⟩, b3, kB, hno⟩ hK hD
    have hnone : findI 15 arg = none := by
      rw [HF.out, List.find?_eq_none]
      intro q hq
      simpa using hno q hq
    have HNO := Lib.hid hnone
    clear hnone hno
    have b2' : Blk W (w.heap.size + 1) 102 #[.int .i32 q.arg, .string (strB q.name), .int .i64 q.takes, .int .i64 q.leaves] := b2
    have e20 := b2'.cell 0
    have e21 := b2'.cell 1
    have e22 := b2'.cell 2
    have e23 := b2'.cell 3
    simp at e20 e21 e22 e23
    have f20 := b2.frozen 0
    have f21 := b2.frozen 1
    have f22 := b2.frozen 2
    have f23 := b2.frozen 3
    have c3 := b3.cell 0
    have f3 := b3.frozen 0
    simp at c3
    go_wp2
    have b2n : Blk (((((W.setCell ⟨w.heap.size + 1, 0, none⟩ (.int .i32 0)).setCell ⟨w.heap.size + 1, 1, none⟩ (.string ⟨#[]⟩)).setCell ⟨w.heap.size + 1, 2, none⟩ (.int .i64 0)).setCell ⟨w.heap.size + 1, 3, none⟩ (.int .i64 0)).setCell ⟨w.heap.size + 1 + 1, 0, none⟩ (.bool false)) (w.heap.size + 1) 102 #[.int .i32 0, .string ⟨#[]⟩, .int .i64 0, .int .i64 0] := by
      have h := ((((b2'.set_ 0 (.int .i32 0)).set_ 1 (.string ⟨#[]⟩)).set_ 2 (.int .i64 0)).set_ 3 (.int .i64 0)).far (p := ⟨w.heap.size + 1 + 1, 0, none⟩) (by simp) (.bool false)
      simpa using h
    have b3n : Blk (((((W.setCell ⟨w.heap.size + 1, 0, none⟩ (.int .i32 0)).setCell ⟨w.heap.size + 1, 1, none⟩ (.string ⟨#[]⟩)).setCell ⟨w.heap.size + 1, 2, none⟩ (.int .i64 0)).setCell ⟨w.heap.size + 1, 3, none⟩ (.int .i64 0)).setCell ⟨w.heap.size + 1 + 1, 0, none⟩ (.bool false)) (w.heap.size + 1 + 1) 4 #[.bool false] := by
      have h := ((((b3.far (p := ⟨w.heap.size + 1, 0, none⟩) (by simp) (.int .i32 0)).far (p := ⟨w.heap.size + 1, 1, none⟩) (by simp) (.string ⟨#[]⟩)).far (p := ⟨w.heap.size + 1, 2, none⟩) (by simp) (.int .i64 0)).far (p := ⟨w.heap.size + 1, 3, none⟩) (by simp) (.int .i64 0)).set_ 0 (.bool false)
      simpa using h
    have kBn : Below w.heap.size w (((((W.setCell ⟨w.heap.size + 1, 0, none⟩ (.int .i32 0)).setCell ⟨w.heap.size + 1, 1, none⟩ (.string ⟨#[]⟩)).setCell ⟨w.heap.size + 1, 2, none⟩ (.int .i64 0)).setCell ⟨w.heap.size + 1, 3, none⟩ (.int .i64 0)).setCell ⟨w.heap.size + 1 + 1, 0, none⟩ (.bool false)) := ((((kB.setCell (by simp) _).setCell (by simp) _).setCell (by simp) _).setCell (by simp) _).setCell (by simp <;> omega) _
    have hKn : (((((W.setCell ⟨w.heap.size + 1, 0, none⟩ (.int .i32 0)).setCell ⟨w.heap.size + 1, 1, none⟩ (.string ⟨#[]⟩)).setCell ⟨w.heap.size + 1, 2, none⟩ (.int .i64 0)).setCell ⟨w.heap.size + 1, 3, none⟩ (.int .i64 0)).setCell ⟨w.heap.size + 1 + 1, 0, none⟩ (.bool false)).heap[D]? = some (.deferred (some [])) := by
      have hn : ∀ (A : World) (p : Addr) (v : Value), p.block < W0.heap.size → A.heap[D]? = some (.deferred (some [])) → (A.setCell p v).heap[D]? = some (.deferred (some [])) := fun A p v hp h => (Below.heap_setCell A p v D (by omega)).trans h
      exact hn _ _ _ (by simp <;> omega) (hn _ _ _ (by simp <;> omega) (hn _ _ _ (by simp <;> omega) (hn _ _ _ (by simp <;> omega) (hn _ _ _ (by simp <;> omega) hK))))
    rw [Exit.noGoto_ret]
    generalize (((((W.setCell ⟨w.heap.size + 1, 0, none⟩ (.int .i32 0)).setCell ⟨w.heap.size + 1, 1, none⟩ (.string ⟨#[]⟩)).setCell ⟨w.heap.size + 1, 2, none⟩ (.int .i64 0)).setCell ⟨w.heap.size + 1, 3, none⟩ (.int .i64 0)).setCell ⟨w.heap.size + 1 + 1, 0, none⟩ (.bool false)) = Wf at *
    clear b2 b2' b3 kB e20 e21 e22 e23 f20 f21 f22 f23 c3 f3 hK c0
    refine ⟨by simp, .inl ⟨_, _, rfl, run_takeDeferred hKn, ?_⟩⟩
    have b2f : ∀ o, Blk (Wf.putObj D o) (w.heap.size + 1) 102 #[.int .i32 0, .string ⟨#[]⟩, .int .i64 0, .int .i64 0] := fun o => (World.putObj_heap_other (by omega)).trans b2n
    have b3f : ∀ o, Blk (Wf.putObj D o) (w.heap.size + 1 + 1) 4 #[.bool false] := fun o => (World.putObj_heap_other (by omega)).trans b3n
    have e0 := fun o => (b2f o).cell 0
    have e1 := fun o => (b2f o).cell 1
    have e2 := fun o => (b2f o).cell 2
    have e3 := fun o => (b2f o).cell 3
    have e4 := fun o => (b3f o).cell 0
    simp at e0 e1 e2 e3 e4
    refine ⟨.tuple #[.agg #[.int .i32 0, .string ⟨#[]⟩, .int .i64 0, .int .i64 0], .bool false], by simp [results, Tryd.results44, go_sem, e0, e1, e2, e3, e4], ?_⟩
    exact ⟨by rw [HNO.out]; rfl, kBn.putObj (by omega) _⟩
  case stop =>
    clear b1 b2 b3 kB
    rintro D c pre x r W hxs ⟨rfl, pre', q, hpq, hno, hyes, b2, b3, kB⟩ hK hD
    refine wpIn_wide.2 ?_
    have b2' : Blk W (w.heap.size + 1) 102 #[.int .i32 q.arg, .string (strB q.name), .int .i64 q.takes, .int .i64 q.leaves] := b2
    have e20 := b2'.cell 0
    have e21 := b2'.cell 1
    have e22 := b2'.cell 2
    have e23 := b2'.cell 3
    simp at e20 e21 e22 e23
    have f20 := b2.frozen 0
    have f21 := b2.frozen 1
    have f22 := b2.frozen 2
    have f23 := b2.frozen 3
    have c3 := b3.cell 0
    have f3 := b3.frozen 0
    simp at c3
    have HNO := Lib.hid hno
    have HYES := Lib.hid hyes
    have HPQ := Lib.hid hpq
    have HXS := Lib.hid hxs
    clear hno hyes hpq hxs
    go_wp2
    have hsome : findI 15 arg = some q := by
      obtain ⟨rfl, hx⟩ := List.append_inj' HPQ.out rfl
      obtain rfl : x = q := by simpa using hx
      rw [HF.out, HXS.out, List.find?_append]
      have h1 : pre.find? (fun r => (r.arg : Int) == arg) = none := by
        rw [List.find?_eq_none]; intro q hq; simpa using HNO.out q hq
      rw [h1, List.find?_cons]
      have h2 : ((x.arg : Int) == arg) = true := by simpa using HYES.out
      rw [h2]; rfl
    have HSO := Lib.hid hsome
    clear hsome
    have b2n : Blk (((((W.setCell ⟨w.heap.size + 1, 0, none⟩ (.int .i32 q.arg)).setCell ⟨w.heap.size + 1, 1, none⟩ (.string (strB q.name))).setCell ⟨w.heap.size + 1, 2, none⟩ (.int .i64 q.takes)).setCell ⟨w.heap.size + 1, 3, none⟩ (.int .i64 q.leaves)).setCell ⟨w.heap.size + 1 + 1, 0, none⟩ (.bool true)) (w.heap.size + 1) 102 #[.int .i32 q.arg, .string (strB q.name), .int .i64 q.takes, .int .i64 q.leaves] := by
      have h := ((((b2'.set_ 0 (.int .i32 q.arg)).set_ 1 (.string (strB q.name))).set_ 2 (.int .i64 q.takes)).set_ 3 (.int .i64 q.leaves)).far (p := ⟨w.heap.size + 1 + 1, 0, none⟩) (by simp) (.bool true)
      simpa using h
    have b3n : Blk (((((W.setCell ⟨w.heap.size + 1, 0, none⟩ (.int .i32 q.arg)).setCell ⟨w.heap.size + 1, 1, none⟩ (.string (strB q.name))).setCell ⟨w.heap.size + 1, 2, none⟩ (.int .i64 q.takes)).setCell ⟨w.heap.size + 1, 3, none⟩ (.int .i64 q.leaves)).setCell ⟨w.heap.size + 1 + 1, 0, none⟩ (.bool true)) (w.heap.size + 1 + 1) 4 #[.bool true] := by
      have h := ((((b3.far (p := ⟨w.heap.size + 1, 0, none⟩) (by simp) (.int .i32 q.arg)).far (p := ⟨w.heap.size + 1, 1, none⟩) (by simp) (.string (strB q.name))).far (p := ⟨w.heap.size + 1, 2, none⟩) (by simp) (.int .i64 q.takes)).far (p := ⟨w.heap.size + 1, 3, none⟩) (by simp) (.int .i64 q.leaves)).set_ 0 (.bool true)
      simpa using h
    have kBn : Below w.heap.size w (((((W.setCell ⟨w.heap.size + 1, 0, none⟩ (.int .i32 q.arg)).setCell ⟨w.heap.size + 1, 1, none⟩ (.string (strB q.name))).setCell ⟨w.heap.size + 1, 2, none⟩ (.int .i64 q.takes)).setCell ⟨w.heap.size + 1, 3, none⟩ (.int .i64 q.leaves)).setCell ⟨w.heap.size + 1 + 1, 0, none⟩ (.bool true)) := ((((kB.setCell (by simp) _).setCell (by simp) _).setCell (by simp) _).setCell (by simp) _).setCell (by simp <;> omega) _
    have hKn : (((((W.setCell ⟨w.heap.size + 1, 0, none⟩ (.int .i32 q.arg)).setCell ⟨w.heap.size + 1, 1, none⟩ (.string (strB q.name))).setCell ⟨w.heap.size + 1, 2, none⟩ (.int .i64 q.takes)).setCell ⟨w.heap.size + 1, 3, none⟩ (.int .i64 q.leaves)).setCell ⟨w.heap.size + 1 + 1, 0, none⟩ (.bool true)).heap[D]? = some (.deferred (some [])) := by
      have hn : ∀ (A : World) (p : Addr) (v : Value), p.block < W0.heap.size → A.heap[D]? = some (.deferred (some [])) → (A.setCell p v).heap[D]? = some (.deferred (some [])) := fun A p v hp h => (Below.heap_setCell A p v D (by omega)).trans h
      exact hn _ _ _ (by simp <;> omega) (hn _ _ _ (by simp <;> omega) (hn _ _ _ (by simp <;> omega) (hn _ _ _ (by simp <;> omega) (hn _ _ _ (by simp <;> omega) hK))))
    rw [Exit.noGoto_ret]
    generalize (((((W.setCell ⟨w.heap.size + 1, 0, none⟩ (.int .i32 q.arg)).setCell ⟨w.heap.size + 1, 1, none⟩ (.string (strB q.name))).setCell ⟨w.heap.size + 1, 2, none⟩ (.int .i64 q.takes)).setCell ⟨w.heap.size + 1, 3, none⟩ (.int .i64 q.leaves)).setCell ⟨w.heap.size + 1 + 1, 0, none⟩ (.bool true)) = Wf at *
    clear b2 b2' b3 kB e20 e21 e22 e23 f20 f21 f22 f23 c3 f3 hK c0
    refine ⟨by simp, .inl ⟨_, _, rfl, run_takeDeferred hKn, ?_⟩⟩
    have b2f : ∀ o, Blk (Wf.putObj D o) (w.heap.size + 1) 102 #[.int .i32 q.arg, .string (strB q.name), .int .i64 q.takes, .int .i64 q.leaves] := fun o => (World.putObj_heap_other (by omega)).trans b2n
    have b3f : ∀ o, Blk (Wf.putObj D o) (w.heap.size + 1 + 1) 4 #[.bool true] := fun o => (World.putObj_heap_other (by omega)).trans b3n
    have e0 := fun o => (b2f o).cell 0
    have e1 := fun o => (b2f o).cell 1
    have e2 := fun o => (b2f o).cell 2
    have e3 := fun o => (b2f o).cell 3
    have e4 := fun o => (b3f o).cell 0
    simp at e0 e1 e2 e3 e4
    refine ⟨.tuple #[.agg #[.int .i32 q.arg, .string (strB q.name), .int .i64 q.takes, .int .i64 q.leaves], .bool true], by simp [results, Tryd.results44, go_sem, e0, e1, e2, e3, e4], ?_⟩
    exact ⟨by rw [HSO.out]; rfl, kBn.putObj (by omega) _⟩
theorem pFind (fn arg : Int) (hf : 0 ≤ fn ∧ fn ≤ 255) (B : Nat) (w : World) (hL : Laid5 B w) (hB : B ≤ w.heap.size) :
    Calls Tryd.prog 44 #[.agg #[.int .u8 fn, .int .i32 arg]] w (RetV (rowP (findI fn arg)) w) := by
  obtain ⟨n, rfl⟩ := Int.eq_ofNat_of_zero_le hf.1
  by_cases h15 : n = 15
  · subst h15; exact pFindO arg B w hL hB
  · cases h : findI (n : Int) arg with
    | none => rw [← h]; exact pFindN n arg (by omega) h15 h w hL.fns
    | some r =>
      obtain ⟨hm, hc⟩ := findI_some h
      rcases hc with ⟨e, _⟩ | ⟨_, e2, _⟩
      · omega
      · have hmF : r ∈ tabF := by
          rcases List.mem_append.1 hm with h1 | h1
          · exact h1
          · have := (tabO_ok r h1).1; omega
        rw [← h]; exact pFindF n arg r hmF (by omega) w hL.fns
end Go.Proofs.YtbefmlioampgcaaDoor
