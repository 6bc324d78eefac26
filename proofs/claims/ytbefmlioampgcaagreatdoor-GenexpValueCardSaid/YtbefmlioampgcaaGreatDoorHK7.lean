/- Texts that belong together, joined: what each one holds is told ahead of it. -/
import Derived.Test.YtbefmlioampgcaaGreatDoorHK6
import Derived.Laws.Rows
import Derived.Test.YtbefmlioampgcaaGreatDoorHK3
set_option linter.unusedVariables false
set_option linter.unusedSimpArgs false
/- The reference's Named, walked. -/
namespace Go.Proofs.YtbefmlioampgcaaGreatDoor
open Go.RowKit
set_option linter.unusedVariables false
set_option linter.unusedSimpArgs false

/-- An instruction, or none, as Named hands it back. -/
def instR (o : Option IRow) : Value := .tuple #[.agg #[.int .u8 (o.getD irow0).fn, .int .i32 (o.getD irow0).arg], .bool o.isSome]
end Go.Proofs.YtbefmlioampgcaaGreatDoor

/- The program's Named: first the functions, then a range over the rows. -/
namespace Go.Proofs.YtbefmlioampgcaaGreatDoor
open Go.RowKit Go.Shelf
attribute [local go_sem] Oper.semAt_some

end Go.Proofs.YtbefmlioampgcaaGreatDoor

/- The reference's Text, walked. -/
namespace Go.Proofs.YtbefmlioampgcaaGreatDoor
open Go.RowKit
set_option linter.unusedVariables false
set_option linter.unusedSimpArgs false

def textV (fn arg : Int) : Value := .tuple #[.string (strB (textI fn arg).1), .int .i64 (textI fn arg).2]
theorem strB_size (l : List UInt8) : (strB l).size = l.length := rfl
end Go.Proofs.YtbefmlioampgcaaGreatDoor

/- The program's Name, Effect, May and Text. -/
namespace Go.Proofs.YtbefmlioampgcaaGreatDoor
open Go.RowKit
set_option linter.unusedVariables false
set_option linter.unusedSimpArgs false

def nameP (o : Option IRow) : Value := .tuple #[.string (strB (o.getD irow0).name), .bool o.isSome]
def effectP (o : Option IRow) : Value := .tuple #[.int .i64 (o.getD irow0).takes, .int .i64 (o.getD irow0).leaves, .bool o.isSome]
section
variable (fn arg : Int) (hf : 0 ≤ fn ∧ fn ≤ 255) (B : Nat) (w : World) (hL : Laid5 B w) (hB : B ≤ w.heap.size)
include hf hL hB

end
end Go.Proofs.YtbefmlioampgcaaGreatDoor

/- The reference's Read, walked. -/
namespace Go.Proofs.YtbefmlioampgcaaGreatDoor
open Go.RowKit
set_option linter.unusedVariables false
set_option linter.unusedSimpArgs false

noncomputable def readIV (l : List UInt8) : Value := .tuple #[.agg #[.int .u8 (readI l).1, .int .i32 (readI l).2.1], .int .i64 (readI l).2.2]
end Go.Proofs.YtbefmlioampgcaaGreatDoor

/- The program's Read. -/
namespace Go.Proofs.YtbefmlioampgcaaGreatDoor
open Go.RowKit
set_option linter.unusedVariables false
set_option linter.unusedSimpArgs false

end Go.Proofs.YtbefmlioampgcaaGreatDoor

/- The examples of the chapter, walked: reads, fails, awake. -/
namespace Go.Proofs.YtbefmlioampgcaaGreatDoor
open Go.RowKit
set_option linter.unusedVariables false
set_option linter.unusedSimpArgs false

def instEq (a b c d : Int) : Bool := decide (a = c ∧ b = d)
theorem inst_eqIn (w : World) (n : Nat) (a b c d : Int) : (Op.equalIn (n + 2) 123 (.agg #[.int .u8 a, .int .i32 b]) (.agg #[.int .u8 c, .int .i32 d])).run Tryz.prog w = .ok (instEq a b c d) w := by
  have hu := Tryz.underlying123
  unfold Op.equalIn
  simp only [Sem.run_bind, run_underlying hu]
  have u3 := Tryz.underlying5
  have u4 := Tryz.underlying21
  by_cases h1 : a = c <;> by_cases h2 : b = d <;> simp [Op.eqFields, part, run_equalIn_int _ _ _ _ _ _ _ u3, run_equalIn_int _ _ _ _ _ _ _ u4, instEq, h1, h2]
@[go_sem ↓] theorem inst_eql (w : World) (a b c d : Int) : (binOp .eql 123 (.agg #[.int .u8 a, .int .i32 b]) (.agg #[.int .u8 c, .int .i32 d])).run Tryz.prog w = .ok (.bool (instEq a b c d)) w := by
  simp only [binOp]
  simp [Op.equal, Op.maxDepth, inst_eqIn w 9998]
@[go_sem ↓] theorem inst_neq (w : World) (a b c d : Int) : (binOp .neq 123 (.agg #[.int .u8 a, .int .i32 b]) (.agg #[.int .u8 c, .int .i32 d])).run Tryz.prog w = .ok (.bool (!instEq a b c d)) w := by
  simp only [binOp]
  simp [Op.equal, Op.maxDepth, inst_eqIn w 9998]
@[go_sem ↓] theorem inst_guard (w : World) (op : BinOp) (x y : Operand) (xs ys : Array Value) : (eqGuard op 123 x y (.agg xs) (.agg ys)).run Tryz.prog w = .ok () w :=
  run_eqGuard_agg w op 123 x y xs ys (by kernel_rfl)
@[go_sem ↓] theorem inst_field0 (w : World) (a b : Value) : (Instr.field 123 (.agg #[a, b]) 0).run Tryz.prog w = .ok a w := by kernel_rfl
@[go_sem ↓] theorem inst_field1 (w : World) (a b : Value) : (Instr.field 123 (.agg #[a, b]) 1).run Tryz.prog w = .ok b w := by kernel_rfl

/-- What holds of the world on the way through a law. -/
def S5 (B : Nat) (w0 w : World) : Prop := Laid5 B w ∧ B ≤ w.heap.size ∧ Below w0.heap.size w0 w
theorem S5.start {B : Nat} {w : World} (h : Laid5 B w) (hB : B ≤ w.heap.size) : S5 B w w := ⟨h, hB, Below.refl _ _⟩
theorem S5.l {B : Nat} {w0 w : World} (h : S5 B w0 w) : Laid5 B w := h.1
theorem S5.b {B : Nat} {w0 w : World} (h : S5 B w0 w) : B ≤ w.heap.size := h.2.1
theorem S5.k {B : Nat} {w0 w : World} (h : S5 B w0 w) : Below w0.heap.size w0 w := h.2.2
theorem S5.call {B : Nat} {w0 w w1 : World} (h : S5 B w0 w) (hb : Below w.heap.size w w1) : S5 B w0 w1 :=
  ⟨h.1.call hb h.2.1, Nat.le_trans h.2.1 hb.size, h.2.2.trans (hb.mono h.2.2.size)⟩
theorem S5.alloc {B : Nat} {w0 w : World} (h : S5 B w0 w) (o : Obj) : S5 B w0 (w.alloc o) := h.call ((Below.refl _ _).alloc (Nat.le_refl _) _)
end Go.Proofs.YtbefmlioampgcaaGreatDoor
