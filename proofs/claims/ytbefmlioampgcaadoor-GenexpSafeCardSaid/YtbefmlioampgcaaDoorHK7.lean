/- Texts that belong together, joined: what each one holds is told ahead of it. -/
import Derived.Test.YtbefmlioampgcaaDoorHK6
import Derived.Laws.Rows
import Derived.Test.YtbefmlioampgcaaDoorHK3
set_option linter.unusedVariables false
set_option linter.unusedSimpArgs false
/- The reference's Named, walked. -/
namespace Go.Proofs.YtbefmlioampgcaaDoor
open Go.RowKit
set_option linter.unusedVariables false
set_option linter.unusedSimpArgs false

/-- An instruction, or none, as Named hands it back. -/
def instR (o : Option IRow) : Value := .tuple #[.agg #[.int .u8 (o.getD irow0).fn, .int .i32 (o.getD irow0).arg], .bool o.isSome]
theorem tab_len : (tabF ++ tabO).length = 87 := rfl
theorem rows_one (l : List IRow) : ∀ u ∈ (rowsV l).toList, u.oneCell' = true := by
  intro u hu
  simp only [rowsV] at hu
  obtain ⟨r, _, h⟩ := List.mem_flatMap.1 hu
  simp only [rowCells, List.mem_cons, List.not_mem_nil, or_false] at h
  rcases h with rfl | rfl | rfl | rfl | rfl <;> rfl
theorem rowsV_size (l : List IRow) : (rowsV l).size = l.length * 5 := by
  simp only [rowsV, List.size_toArray, List.length_flatMap]
  induction l with
  | nil => rfl
  | cons r l ih => simp [rowCells] at ih ⊢; omega
theorem rowsV_app (l m : List IRow) : (rowsV l).toList ++ (rowsV m).toList = (rowsV (l ++ m)).toList := by simp [rowsV]
end Go.Proofs.YtbefmlioampgcaaDoor

/- The program's Named: first the functions, then a range over the rows. -/
namespace Go.Proofs.YtbefmlioampgcaaDoor
open Go.RowKit Go.Shelf
attribute [local go_sem] Oper.semAt_some

theorem run_index_array {P : Program} (t e : TypeId) (n : Nat) (cs : Array Value) (i : Int) (v : Value) (w : World) (ht : P.underlying t = some (.array n e)) (hs : (sizeOf e).run P w = .ok 1 w) (ha : (isAgg e).run P w = .ok false w)
    (h0 : 0 ≤ i) (hn : i < n) (hp : cs[i.toNat]? = some v) : (Instr.index t (.agg cs) (.int .i64 i)).run P w = .ok v w := by
  simp [Instr.index, run_underlying ht, asIntOf, h0, hn, hs, part, ha, hp, go_sem]
theorem fn_index {k : Nat} {s : List UInt8} (h : fnL[k]? = some s) (w : World) : (Instr.index 126 (.agg fnV) (.int .i64 k)).run Tryd.prog w = .ok (.string (strB s)) w := by
  have hk : k < 16 := (List.getElem?_eq_some_iff.1 h).1
  exact run_index_array 126 9 16 fnV k _ w Tryd.underlying126 (by simp [Tryd.sizeOf9]) (by simp [Tryd.isAgg9]) (by omega) (by omega) (by simp [fnV, h])
theorem named_fn : ∀ (k : Nat), k < 16 → ∀ (s : List UInt8), fnL[k]? = some s → s ≠ [] → ∃ r ∈ tabF, r.fn = k ∧ r.name = s ∧ r.arg = 0 := by
  have h : ∀ k, k < 16 → (match fnL[k]? with | none => true | some s => s.isEmpty || tabF.any fun r => r.fn == k && r.name == s && r.arg == 0) = true := by decide
  intro k hk s hs hne
  have h1 := h k hk
  rw [hs] at h1
  simp only [Bool.or_eq_true, List.any_eq_true, Bool.and_eq_true, beq_iff_eq, List.isEmpty_iff] at h1
  rcases h1 with h1 | ⟨r, h1, ⟨h2, h3⟩, h4⟩
  · exact absurd h1 hne
  · exact ⟨r, h1, h2, h3, h4⟩
theorem named_ops {n : List UInt8} (h : ∀ (k : Nat) (s : List UInt8), fnL[k]? = some s → s ≠ [] → s ≠ n) : namedI n = tabO.find? (fun r => r.name == n) := by
  unfold namedI
  rw [List.find?_append]
  have h1 : tabF.find? (fun r => r.name == n) = none := by
    rw [List.find?_eq_none]
    intro r hr
    obtain ⟨-, -, u2, -⟩ := uses_spec r hr
    simpa using h r.fn r.name u2 (tabF_ok r hr).2.2.1
  rw [h1]; rfl
theorem str_eq_iff (l : List UInt8) (S : ByteArray) : ((strB l).toList == S.toList) = (l == S.data.toList) := by
  rw [ByteArray.toList_eq, ByteArray.toList_eq]; rfl

end Go.Proofs.YtbefmlioampgcaaDoor

/- The reference's Text, walked. -/
namespace Go.Proofs.YtbefmlioampgcaaDoor
open Go.RowKit
set_option linter.unusedVariables false
set_option linter.unusedSimpArgs false

def textV (fn arg : Int) : Value := .tuple #[.string (strB (textI fn arg).1), .int .i64 (textI fn arg).2]
theorem textI_none {fn arg : Int} (h : findI fn arg = none) : textI fn arg = ([], 2) := by unfold textI; rw [h]
theorem textI_15 {arg : Int} {r : IRow} (h : findI 15 arg = some r) : textI 15 arg = (r.name, 0) := by unfold textI; rw [h]; rfl
theorem textI_fn {fn arg : Int} {r : IRow} (h : findI fn arg = some r) (h15 : fn ≠ 15) : textI fn arg = (r.name ++ 32 :: textL arg false, 0) := by unfold textI; rw [h]; simp [h15]
theorem strB_sp (l m : List UInt8) : strB l ++ ⟨#[32]⟩ ++ strB m = strB (l ++ 32 :: m) := by
  have e : (⟨#[32]⟩ : ByteArray) = strB [32] := rfl
  rw [e, str_append, str_append, List.append_assoc]; rfl
theorem tt_eq {l l' : List UInt8} {k k' : Int} (h : (l, k) = (l', k')) : Ending.returned (.tuple #[.string (strB l), .int .i64 k]) = .returned (.tuple #[.string (strB l'), .int .i64 k']) := by
  injection h with h1 h2; rw [h1, h2]
theorem strB_size (l : List UInt8) : (strB l).size = l.length := rfl
theorem textS_size (a : Int) (h : Bool) (ha : is32 a) : (strB (textL a h)).size ≤ 11 := by
  rw [strB_size]; exact (textL_len (g := h) ha).2
end Go.Proofs.YtbefmlioampgcaaDoor

/- The program's Name, Effect, May and Text. -/
namespace Go.Proofs.YtbefmlioampgcaaDoor
open Go.RowKit
set_option linter.unusedVariables false
set_option linter.unusedSimpArgs false

def nameP (o : Option IRow) : Value := .tuple #[.string (strB (o.getD irow0).name), .bool o.isSome]
def effectP (o : Option IRow) : Value := .tuple #[.int .i64 (o.getD irow0).takes, .int .i64 (o.getD irow0).leaves, .bool o.isSome]
section
variable (fn arg : Int) (hf : 0 ≤ fn ∧ fn ≤ 255) (B : Nat) (w : World) (hL : Laid5 B w) (hB : B ≤ w.heap.size)
include hf hL hB

theorem pMay : Calls Tryd.prog 108 #[.agg #[.int .u8 fn, .int .i32 arg]] w (RetV (.bool (findI fn arg).isSome) w) := by
  have hB0 : Below w.heap.size w (w.alloc (.cells #[.int .u8 fn, .int .i32 arg] 60)) := (Below.refl _ _).alloc (Nat.le_refl _) _
  have HFi := Lib.hid (pFind fn arg hf B _ (hL.on (hB0.mono hB)) (Nat.le_trans hB hB0.size))
  unfold rowP rowV at HFi
  generalize (findI fn arg).isSome = ok at *
  generalize (findI fn arg).getD irow0 = r at *
  generalize strB r.name = NM at *
  clear hL
  go_enter Tryd.func108, Tryd.ntmps108
  go_wp2_with (go_at_call 44; refine HFi.out.mono ?_; rintro e w1 ⟨rfl, hb1⟩)
  go_ret
  exact ⟨rfl, (hB0.trans (hb1.mono (by simp <;> omega))).alloc (by have := hb1.size; simp at this; omega) _⟩
theorem pEffect : Calls Tryd.prog 17 #[.agg #[.int .u8 fn, .int .i32 arg]] w (RetV (effectP (findI fn arg)) w) := by
  have hB0 : Below w.heap.size w (w.alloc (.cells #[.int .u8 fn, .int .i32 arg] 60)) := (Below.refl _ _).alloc (Nat.le_refl _) _
  have HFi := Lib.hid (pFind fn arg hf B _ (hL.on (hB0.mono hB)) (Nat.le_trans hB hB0.size))
  unfold rowP rowV at HFi
  unfold effectP
  generalize (findI fn arg).isSome = ok at *
  generalize (findI fn arg).getD irow0 = r at *
  generalize strB r.name = NM at *
  clear hL
  go_enter Tryd.func17, Tryd.ntmps17
  go_wp2_with (go_at_call 44; refine HFi.out.mono ?_; rintro e w1 ⟨rfl, hb1⟩)
  have bR := Blk.new w1 102 #[.int .i32 r.arg, .string NM, .int .i64 r.takes, .int .i64 r.leaves]
  have hBR := (hB0.trans (hb1.mono (by simp <;> omega))).alloc (by have := hb1.size; simp at this; omega) (.cells #[.int .i32 r.arg, .string NM, .int .i64 r.takes, .int .i64 r.leaves] 102)
  generalize w1.alloc (.cells #[.int .i32 r.arg, .string NM, .int .i64 r.takes, .int .i64 r.leaves] 102) = W at *
  have c10 := bR.cell 0
  have c11 := bR.cell 1
  have c12 := bR.cell 2
  have c13 := bR.cell 3
  simp at c10 c11 c12 c13
  go_quiet (fail)
  go_wp2
  go_ret3
  exact ⟨rfl, hBR.trans ⟨rfl, rfl, rfl, Nat.le_refl _, fun _ _ => rfl⟩⟩
end
end Go.Proofs.YtbefmlioampgcaaDoor

/- The reference's Read, walked. -/
namespace Go.Proofs.YtbefmlioampgcaaDoor
open Go.RowKit
set_option linter.unusedVariables false
set_option linter.unusedSimpArgs false

noncomputable def readIV (l : List UInt8) : Value := .tuple #[.agg #[.int .u8 (readI l).1, .int .i32 (readI l).2.1], .int .i64 (readI l).2.2]
theorem tw_at (c : UInt8) : ∀ (l : List UInt8) (k : Nat), k < (l.takeWhile (· != c)).length → ∃ d, l[k]? = some d ∧ d ≠ c
  | [], k, h => by simp at h
  | a :: l, k, h => by
    by_cases hac : a = c
    · simp [hac] at h
    · have e : (a :: l).takeWhile (· != c) = a :: l.takeWhile (· != c) := by simp [hac]
      rw [e] at h
      cases k with
      | zero => exact ⟨a, rfl, hac⟩
      | succ k => exact tw_at c l k (by simpa using h)
theorem tw_end (c : UInt8) : ∀ (l : List UInt8), (l.takeWhile (· != c)).length < l.length → l[(l.takeWhile (· != c)).length]? = some c
  | [], h => by simp at h
  | a :: l, h => by
    by_cases hac : a = c
    · simp [hac]
    · have e : (a :: l).takeWhile (· != c) = a :: l.takeWhile (· != c) := by simp [hac]
      rw [e] at h ⊢
      simp only [List.length_cons, List.getElem?_cons_succ]
      exact tw_end c l (by simpa using h)
theorem str_get {S : ByteArray} {k : Nat} {d : UInt8} (h : S.data.toList[k]? = some d) : ∃ hk : k < S.size, S[k] = d := by
  obtain ⟨h1, h2⟩ := List.getElem?_eq_some_iff.1 h
  exact ⟨by simpa using h1, by simpa [ByteArray.getElem_eq_getElem_data] using h2⟩
end Go.Proofs.YtbefmlioampgcaaDoor

/- The program's Read. -/
namespace Go.Proofs.YtbefmlioampgcaaDoor
open Go.RowKit
set_option linter.unusedVariables false
set_option linter.unusedSimpArgs false

theorem rd_eq {a b c a' b' c' : Int} (h : (a, b, c) = (a', b', c')) : Ending.returned (.tuple #[.agg #[.int .u8 a, .int .i32 b], .int .i64 c]) = .returned (.tuple #[.agg #[.int .u8 a', .int .i32 b'], .int .i64 c']) := by
  injection h with h1 h2; injection h2 with h2 h3; rw [h1, h2, h3]
end Go.Proofs.YtbefmlioampgcaaDoor

/- The examples of the chapter, walked: reads, fails, awake. -/
namespace Go.Proofs.YtbefmlioampgcaaDoor
open Go.RowKit
set_option linter.unusedVariables false
set_option linter.unusedSimpArgs false

def instEq (a b c d : Int) : Bool := decide (a = c ∧ b = d)
theorem instEq_same (a b : Int) : instEq a b a b = true := by simp [instEq]
theorem inst_eqIn (w : World) (n : Nat) (a b c d : Int) : (Op.equalIn (n + 2) 60 (.agg #[.int .u8 a, .int .i32 b]) (.agg #[.int .u8 c, .int .i32 d])).run Tryd.prog w = .ok (instEq a b c d) w := by
  have hu := Tryd.underlying60
  unfold Op.equalIn
  simp only [Sem.run_bind, run_underlying hu]
  have u3 := Tryd.underlying5
  have u4 := Tryd.underlying21
  by_cases h1 : a = c <;> by_cases h2 : b = d <;> simp [Op.eqFields, part, run_equalIn_int _ _ _ _ _ _ _ u3, run_equalIn_int _ _ _ _ _ _ _ u4, instEq, h1, h2]
@[go_sem ↓] theorem inst_eql (w : World) (a b c d : Int) : (binOp .eql 60 (.agg #[.int .u8 a, .int .i32 b]) (.agg #[.int .u8 c, .int .i32 d])).run Tryd.prog w = .ok (.bool (instEq a b c d)) w := by
  simp only [binOp]
  simp [Op.equal, Op.maxDepth, inst_eqIn w 9998]
@[go_sem ↓] theorem inst_neq (w : World) (a b c d : Int) : (binOp .neq 60 (.agg #[.int .u8 a, .int .i32 b]) (.agg #[.int .u8 c, .int .i32 d])).run Tryd.prog w = .ok (.bool (!instEq a b c d)) w := by
  simp only [binOp]
  simp [Op.equal, Op.maxDepth, inst_eqIn w 9998]
@[go_sem ↓] theorem inst_guard (w : World) (op : BinOp) (x y : Operand) (xs ys : Array Value) : (eqGuard op 60 x y (.agg xs) (.agg ys)).run Tryd.prog w = .ok () w :=
  run_eqGuard_agg w op 60 x y xs ys (by kernel_rfl)
@[go_sem ↓] theorem inst_field0 (w : World) (a b : Value) : (Instr.field 60 (.agg #[a, b]) 0).run Tryd.prog w = .ok a w := by kernel_rfl
@[go_sem ↓] theorem inst_field1 (w : World) (a b : Value) : (Instr.field 60 (.agg #[a, b]) 1).run Tryd.prog w = .ok b w := by kernel_rfl

/-- What holds of the world on the way through a law. -/
def S5 (B : Nat) (w0 w : World) : Prop := Laid5 B w ∧ B ≤ w.heap.size ∧ Below w0.heap.size w0 w
theorem S5.start {B : Nat} {w : World} (h : Laid5 B w) (hB : B ≤ w.heap.size) : S5 B w w := ⟨h, hB, Below.refl _ _⟩
theorem S5.l {B : Nat} {w0 w : World} (h : S5 B w0 w) : Laid5 B w := h.1
theorem S5.b {B : Nat} {w0 w : World} (h : S5 B w0 w) : B ≤ w.heap.size := h.2.1
theorem S5.k {B : Nat} {w0 w : World} (h : S5 B w0 w) : Below w0.heap.size w0 w := h.2.2
theorem S5.call {B : Nat} {w0 w w1 : World} (h : S5 B w0 w) (hb : Below w.heap.size w w1) : S5 B w0 w1 :=
  ⟨h.1.call hb h.2.1, Nat.le_trans h.2.1 hb.size, h.2.2.trans (hb.mono h.2.2.size)⟩
theorem S5.alloc {B : Nat} {w0 w : World} (h : S5 B w0 w) (o : Obj) : S5 B w0 (w.alloc o) := h.call ((Below.refl _ _).alloc (Nat.le_refl _) _)
end Go.Proofs.YtbefmlioampgcaaDoor
