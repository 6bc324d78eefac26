/- Texts that belong together, joined: what each one holds is told ahead of it. -/
import Derived.Test.YtbefmlioampgcaaGreatDoorHK1
import Derived.Test.YtbefmlioampgcaaGreatDoorHK4
import Derived.Test.YtbefmlioampgcaaGreatDoorHI3
set_option linter.unusedVariables false
set_option linter.unusedSimpArgs false
/- A list of operations that call nothing, run by reckoning: for the long literals. -/
namespace Go.Proofs.YtbefmlioampgcaaGreatDoor
open Go.RowKit
set_option linter.unusedVariables false
set_option linter.unusedSimpArgs false

def runOps (P : Program) : List Oper → Act → World → Option (Act × World)
  | [], a, w => some (a, w)
  | o :: r, a, w =>
    match o.guard with
    | some _ => none
    | none =>
      match (execOp a.eval o).run P w with
      | .ok (.value v) w' => runOps P r (a.put o.dst v) w'
      | .ok .skip w' => runOps P r (a.put o.dst undef) w'
      | _ => none
end Go.Proofs.YtbefmlioampgcaaGreatDoor

/- The reference's tables, walked. -/
namespace Go.Proofs.YtbefmlioampgcaaGreatDoor
open Go.RowKit
set_option linter.unusedVariables false
set_option linter.unusedSimpArgs false

def rowCells (r : IRow) : List Value := [.int .u8 r.fn, .int .i32 r.arg, .string (strB r.name), .int .i64 r.takes, .int .i64 r.leaves]
def rowsV (l : List IRow) : Array Value := (l.flatMap rowCells).toArray
end Go.Proofs.YtbefmlioampgcaaGreatDoor

/- The reference's Find, walked. -/
namespace Go.Proofs.YtbefmlioampgcaaGreatDoor
open Go.RowKit
set_option linter.unusedVariables false
set_option linter.unusedSimpArgs false

def rowA (r : IRow) : Value := .agg #[.int .u8 r.fn, .int .i32 r.arg, .string (strB r.name), .int .i64 r.takes, .int .i64 r.leaves]
/-- A row, or none, as Find hands it back. -/
def rowR (o : Option IRow) : Value := .tuple #[rowA (o.getD irow0), .bool o.isSome]
end Go.Proofs.YtbefmlioampgcaaGreatDoor

/- The program's row of a function: walked. -/
namespace Go.Proofs.YtbefmlioampgcaaGreatDoor
open Go.RowKit
set_option linter.unusedVariables false
set_option linter.unusedSimpArgs false

/-- The mnemonics of the functions, as the program lays them. -/
def fnL : List (List UInt8) := [[106], [108, 100, 108, 112], [], [108, 100, 110, 108], [108, 100, 99], [108, 100, 110, 108, 112], [], [108, 100, 108], [97, 100, 99], [99, 97, 108, 108], [99, 106], [97, 106, 119], [101, 113, 99], [115, 116, 108], [115, 116, 110, 108], []]
def fnGL : Nat := 1
def fnV : Array Value := (fnL.map fun l => Value.string (strB l)).toArray
def FnsAt (w : World) : Prop := ∃ t fr, w.heap[fnGL]? = some (.cells fnV t fr)
theorem FnsAt.cell {w : World} (h : FnsAt w) {i : Nat} {s : List UInt8} (hi : fnL[i]? = some s) : w.cell? ⟨fnGL, i, none⟩ = some (.string (strB s)) := by
  obtain ⟨t, fr, h⟩ := h
  rw [cell_of_row w fnGL i fnV t fr h]
  simp [fnV, hi]
theorem FnsAt.lt {w : World} (h : FnsAt w) : fnGL < w.heap.size := by
  obtain ⟨t, fr, h⟩ := h
  exact (Array.getElem?_eq_some_iff.1 h).1
/-- What the package-level variables hold, in every world that keeps what lies below B. -/
def Laid5 (B : Nat) (w : World) : Prop := Laid B w ∧ Blanks B w ∧ ∀ w', Below B w w' → FnsAt w'
theorem Laid5.on {B : Nat} {w w1 : World} (h : Laid5 B w) (hb : Below B w w1) : Laid5 B w1 :=
  ⟨h.1.on hb, fun w' h' => h.2.1 w' (hb.trans h'), fun w' h' => h.2.2 w' (hb.trans h')⟩
theorem Laid5.call {B : Nat} {w w1 : World} (h : Laid5 B w) (hb : Below w.heap.size w w1) (hB : B ≤ w.heap.size) : Laid5 B w1 := h.on (hb.mono hB)
theorem Laid5.fns {B : Nat} {w : World} (h : Laid5 B w) : FnsAt w := h.2.2 w (Below.refl _ _)

def usesL : List UInt8 := [48, 48, 32, 48, 49, 32, 46, 46, 32, 49, 49, 32, 48, 49, 32, 49, 49, 32, 46, 46, 32, 48, 49, 32, 49, 49, 32, 51, 49, 32, 49, 48, 32, 48, 48, 32, 49, 49, 32, 49, 48, 32, 50, 48]
theorem fns_spec : ∀ n, n < 16 → (tabF.find? (fun r => r.fn == n)).map (·.name) = (if fnL[n]? = some [] then none else fnL[n]?) := by decide
theorem uses_spec : ∀ r ∈ tabF, (usesL.drop (3 * r.fn)).head? = some (dig r.takes) ∧ (usesL.drop (3 * r.fn))[1]? = some (dig r.leaves) ∧ fnL[r.fn]? = some r.name ∧ 3 * r.fn + 1 < 44 := by decide
theorem uses_ext (n : Nat) : ((⟨#[48, 48, 32, 48, 49, 32, 46, 46, 32, 49, 49, 32, 48, 49, 32, 49, 49, 32, 46, 46, 32, 48, 49, 32, 49, 49, 32, 51, 49, 32, 49, 48, 32, 48, 48, 32, 49, 49, 32, 49, 48, 32, 50, 48]⟩ : ByteArray).extract (3 * n) 44).data.toList = usesL.drop (3 * n) := by
  have h := ext_drop ⟨#[48, 48, 32, 48, 49, 32, 46, 46, 32, 49, 49, 32, 48, 49, 32, 49, 49, 32, 46, 46, 32, 48, 49, 32, 49, 49, 32, 51, 49, 32, 49, 48, 32, 48, 48, 32, 49, 49, 32, 49, 48, 32, 50, 48]⟩ (3 * n)
  have e : (⟨#[48, 48, 32, 48, 49, 32, 46, 46, 32, 49, 49, 32, 48, 49, 32, 49, 49, 32, 46, 46, 32, 48, 49, 32, 49, 49, 32, 51, 49, 32, 49, 48, 32, 48, 48, 32, 49, 49, 32, 49, 48, 32, 50, 48]⟩ : ByteArray).size = 44 := rfl
  rw [e] at h
  rw [h]
  rfl
/-- A row, or none, as the program hands it back. -/
def rowP (o : Option IRow) : Value := .tuple #[rowV (o.getD irow0), .bool o.isSome]
theorem findF_row {n : Nat} {arg : Int} {r : IRow} (h : r ∈ tabF) (hn : r.fn = n) : findI n arg = some r := by
  have h15 : ¬ (n : Int) = 15 := by have := (tabF_ok r h).1; omega
  unfold findI
  rw [if_neg h15]
  have := find_nodup (fun q : IRow => q.fn) tabF fns_nodup r h
  have e : (fun q : IRow => ((q.fn : Nat) : Int) == (n : Int)) = fun q => q.fn == r.fn := by
    funext q; rw [Bool.eq_iff_iff]; simp; omega
  rw [e]; exact this

set_option maxRecDepth 100000 in
theorem pFindF (n : Nat) (arg : Int) (r : IRow) (hr : r ∈ tabF) (hn : r.fn = n) (w : World) (hL : FnsAt w) :
    Calls Tryz.prog 102 #[.agg #[.int .u8 n, .int .i32 arg]] w (RetV (rowP (findI n arg)) w) := by
  rw [findF_row hr hn]
  obtain ⟨u0, u1, u2, u3⟩ := uses_spec r hr
  rw [hn] at u0 u1 u2 u3
  obtain ⟨t1, t2, t3, t4, t5, t6, t7, t8⟩ := tabF_ok r hr
  have c0 : w.cell? ⟨1, n, none⟩ = some (.string (strB r.name)) := hL.cell u2
  have hg' : 1 < w.heap.size := hL.lt
  have hgp : 0 < w.heap.size := Nat.lt_of_le_of_lt (Nat.zero_le _) hg'
  have hlt : n < 16 := by omega
  have hltI : (n : Int) < 16 := by omega
  have hn0 : (0 : Int) ≤ n := by omega
  have hV : rowP (some r) = .tuple #[.agg #[.int .i32 r.arg, .string (strB r.name), .int .i64 r.takes, .int .i64 r.leaves], .bool true] := rfl
  rw [hV, t2]
  have hne3 : (strB r.name).toList.isEmpty = false := by
    rw [ByteArray.toList_eq]
    cases h : r.name with
    | nil => exact absurd h t3
    | cons c l => rfl
  obtain ⟨S, hS⟩ : ∃ S, (⟨#[48, 48, 32, 48, 49, 32, 46, 46, 32, 49, 49, 32, 48, 49, 32, 49, 49, 32, 46, 46, 32, 48, 49, 32, 49, 49, 32, 51, 49, 32, 49, 48, 32, 48, 48, 32, 49, 49, 32, 49, 48, 32, 50, 48]⟩ : ByteArray).extract (3 * n) 44 = S := ⟨_, rfl⟩
  have hSd : S.data.toList = usesL.drop (3 * n) := by
    rw [← hS]; exact uses_ext n
  rw [← hSd] at u0 u1
  have hx1 : 1 < S.size := by
    have h := (List.getElem?_eq_some_iff.1 u1).1
    rw [Array.length_toList] at h
    exact h
  have hx0 : 0 < S.size := by omega
  have X0 : S[0] = dig r.takes := str_at (by rw [List.head?_eq_getElem?] at u0; simpa using u0) hx0
  have X1 : S[1] = dig r.leaves := str_at (by simpa using u1) hx1
  have HS := Lib.hid hS
  have hD := Lib.hid (fun d (h : d < 16) w => idigitq d h w)
  generalize hNM : strB r.name = NM at *
  generalize r.takes = dt at *
  generalize r.leaves = dl at *
  clear u0 u1 u2 hS hSd hL hNM hV t1 t2 t3 t4 t5 t8 hr hn
  go_enter Tryz.func102, Tryz.ntmps102
  go_wp2
  go_step3
  go_upto_region 3 with (fail)
  rw [HS.out]
  clear HS
  refine wp_region_quiet_tail 13 (by kernel_rfl) (by kernel_rfl) ?_
  simp only [List.take_succ_cons, List.take_zero, List.drop_succ_cons, List.drop_zero]
  repeat (first
          | go_big_quiet_step (fail)
          | (go_big_quiet_want; go_big_quiet_op; apply Exists.intro; refine ⟨?_, ?_⟩; (exact hD.out _ (by omega) _); go_big_quiet_on))
  refine wpQuiet_nil ?_
  go_wp2
  rw [Exit.noGoto_ret]
  refine bodyPost_ret (v := .tuple #[.agg #[.int .i32 0, .string NM, .int .i64 dt, .int .i64 dl], .bool true]) (by simp [results, Tryz.results102, go_sem]) rfl ⟨rfl, ?_⟩
  exact (((((Below.refl _ w).alloc (Nat.le_refl _) _).alloc (by simp) _).alloc (by simp <;> omega) _)).drew

set_option maxRecDepth 100000 in
theorem pFindN (n : Nat) (arg : Int) (hn : n < 256) (h15 : n ≠ 15) (hno : findI n arg = none) (w : World) (hL : FnsAt w) :
    Calls Tryz.prog 102 #[.agg #[.int .u8 n, .int .i32 arg]] w (RetV (rowP (findI n arg)) w) := by
  rw [hno]
  have hV : rowP none = .tuple #[.agg #[.int .i32 0, .string ⟨#[]⟩, .int .i64 0, .int .i64 0], .bool false] := rfl
  rw [hV]
  have h15b : ((n : Int) != 15) = true := by simp; omega
  have hg' : 1 < w.heap.size := hL.lt
  have hgp : 0 < w.heap.size := Nat.lt_of_le_of_lt (Nat.zero_le _) hg'
  by_cases hlt : n < 16
  · have c0 : w.cell? ⟨1, n, none⟩ = some (.string ⟨#[]⟩) := by
      have h := fns_spec n hlt
      have hs : fnL[n]? = some [] := by
        cases hf : tabF.find? (fun r => r.fn == n) with
        | none => rw [hf] at h; by_cases h0 : fnL[n]? = some []
                  · exact h0
                  · rw [if_neg h0] at h
                    have : fnL[n]? = some (fnL[n]'hlt) := List.getElem?_eq_getElem hlt
                    rw [this] at h; cases h
        | some r =>
          exfalso
          have hm := List.mem_of_find?_eq_some hf
          have hp := List.find?_some hf
          rw [findF_row hm (by simpa using hp)] at hno
          cases hno
      exact hL.cell hs
    have hltI : (n : Int) < 16 := by omega
    have hn0 : (0 : Int) ≤ n := by omega
    clear hL hno
    go_enter Tryz.func102, Tryz.ntmps102
    go_wp2
    go_step3
    go_wp2
    rw [Exit.noGoto_ret]
    refine bodyPost_ret (v := .tuple #[.agg #[.int .i32 0, .string ⟨#[]⟩, .int .i64 0, .int .i64 0], .bool false]) (by simp [results, Tryz.results102, go_sem]) rfl ⟨rfl, ?_⟩
    exact (((((Below.refl _ w).alloc (Nat.le_refl _) _).alloc (by simp) _).alloc (by simp <;> omega) _))
  · have hltI : ¬ (n : Int) < 16 := by omega
    clear hL hno
    go_enter Tryz.func102, Tryz.ntmps102
    go_wp2
    go_step3
    go_wp2
    try rw [Exit.noGoto_ret]
    refine bodyPost_ret (v := .tuple #[.agg #[.int .i32 0, .string ⟨#[]⟩, .int .i64 0, .int .i64 0], .bool false]) (by simp [results, Tryz.results102, go_sem]) rfl ⟨rfl, ?_⟩
    exact (((((Below.refl _ w).alloc (Nat.le_refl _) _).alloc (by simp) _).alloc (by simp <;> omega) _))
end Go.Proofs.YtbefmlioampgcaaGreatDoor

/- The program's row of an operation: a range over the rows, left at the first that fits. -/
namespace Go.Proofs.YtbefmlioampgcaaGreatDoor
open Go.RowKit Go.Shelf
attribute [local go_sem] Oper.semAt_some

theorem seqUntil_rows (n B : Nat) (w : World) (hBl : Blanks B w) (hB : B ≤ w.heap.size) (X : Nat → Prop) (hX : ∀ k, X k → k < w.heap.size) :
    SeqUntil Fence.wide n Tryz.prog 108 #[] (fun r : IRow => #[rowV r]) X tabO w := rows_iter n X w hX B hBl hB
def rowC (r : IRow) : Array Value := #[.int .i32 r.arg, .string (strB r.name), .int .i64 r.takes, .int .i64 r.leaves]
end Go.Proofs.YtbefmlioampgcaaGreatDoor
