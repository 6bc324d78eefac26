
/- The examples of the chapter, walked: reads, fails, awake. -/
import Derived.Test.YtaakhhnlmldegaaDoorJ4
import Derived.Test.YtaakhhnlmldegaaDoorQ2
namespace Go.Proofs.YtaakhhnlmldegaaDoor
open Go.RowKit
set_option linter.unusedVariables false
set_option linter.unusedSimpArgs false

def instEq (a b c d : Int) : Bool := decide (a = c ∧ b = d)
theorem instEq_same (a b : Int) : instEq a b a b = true := by simp [instEq]
theorem inst_eqIn (w : World) (n : Nat) (a b c d : Int) : (Op.equalIn (n + 2) 23 (.agg #[.int .u8 a, .int .i32 b]) (.agg #[.int .u8 c, .int .i32 d])).run Tryd.prog w = .ok (instEq a b c d) w := by
  have hu := Tryd.underlying23
  unfold Op.equalIn
  simp only [Sem.run_bind, run_underlying hu]
  have u3 := Tryd.underlying5
  have u4 := Tryd.underlying21
  by_cases h1 : a = c <;> by_cases h2 : b = d <;> simp [Op.eqFields, part, run_equalIn_int _ _ _ _ _ _ _ u3, run_equalIn_int _ _ _ _ _ _ _ u4, instEq, h1, h2]
@[go_sem ↓] theorem inst_eql (w : World) (a b c d : Int) : (binOp .eql 23 (.agg #[.int .u8 a, .int .i32 b]) (.agg #[.int .u8 c, .int .i32 d])).run Tryd.prog w = .ok (.bool (instEq a b c d)) w := by
  simp only [binOp]
  simp [Op.equal, Op.maxDepth, inst_eqIn w 9998]
@[go_sem ↓] theorem inst_neq (w : World) (a b c d : Int) : (binOp .neq 23 (.agg #[.int .u8 a, .int .i32 b]) (.agg #[.int .u8 c, .int .i32 d])).run Tryd.prog w = .ok (.bool (!instEq a b c d)) w := by
  simp only [binOp]
  simp [Op.equal, Op.maxDepth, inst_eqIn w 9998]
@[go_sem ↓] theorem inst_guard (w : World) (op : BinOp) (x y : Operand) (xs ys : Array Value) : (eqGuard op 23 x y (.agg xs) (.agg ys)).run Tryd.prog w = .ok () w :=
  run_eqGuard_agg w op 23 x y xs ys (by kernel_rfl)
@[go_sem ↓] theorem inst_field0 (w : World) (a b : Value) : (Instr.field 23 (.agg #[a, b]) 0).run Tryd.prog w = .ok a w := by kernel_rfl
@[go_sem ↓] theorem inst_field1 (w : World) (a b : Value) : (Instr.field 23 (.agg #[a, b]) 1).run Tryd.prog w = .ok b w := by kernel_rfl

/-- What holds of the world on the way through a law. -/
def S5 (B : Nat) (w0 w : World) : Prop := Laid5 B w ∧ B ≤ w.heap.size ∧ Below w0.heap.size w0 w
theorem S5.start {B : Nat} {w : World} (h : Laid5 B w) (hB : B ≤ w.heap.size) : S5 B w w := ⟨h, hB, Below.refl _ _⟩
theorem S5.l {B : Nat} {w0 w : World} (h : S5 B w0 w) : Laid5 B w := h.1
theorem S5.b {B : Nat} {w0 w : World} (h : S5 B w0 w) : B ≤ w.heap.size := h.2.1
theorem S5.k {B : Nat} {w0 w : World} (h : S5 B w0 w) : Below w0.heap.size w0 w := h.2.2
theorem S5.call {B : Nat} {w0 w w1 : World} (h : S5 B w0 w) (hb : Below w.heap.size w w1) : S5 B w0 w1 :=
  ⟨h.1.call hb h.2.1, Nat.le_trans h.2.1 hb.size, h.2.2.trans (hb.mono h.2.2.size)⟩
theorem S5.alloc {B : Nat} {w0 w : World} (h : S5 B w0 w) (o : Obj) : S5 B w0 (w.alloc o) := h.call ((Below.refl _ _).alloc (Nat.le_refl _) _)
theorem fails_yes (S : ByteArray) (want : Int) (hs : S.size ≤ 281474976710656) (hr : readI S.data.toList = (0, 0, want)) (B : Nat) (w : World) (hL : Laid5 B w) (hB : B ≤ w.heap.size) :
    Calls Tryd.prog 11 #[.string S, .int .i64 want] w (RetV (.bool true) w) := by
  have HR := Lib.hid (pRead S hs B w hL hB)
  unfold readIV at HR
  rw [hr] at HR
  have hE := instEq_same 0 0
  clear hr hL
  go_enter Tryd.func11, Tryd.ntmps11
  go_wp2_with (go_at_call 17; refine HR.out.mono ?_; rintro e w1 ⟨rfl, hb1⟩)
  go_ret
  exact ⟨rfl, hb1.alloc hb1.size _⟩
theorem reads_yes (S : ByteArray) (fn arg : Int) (hf : 0 ≤ fn ∧ fn ≤ 255) (ha : is32 arg) (hs : S.size ≤ 281474976710656) (ht : textI fn arg = (S.data.toList, 0)) (B : Nat) (w : World) (hL : Laid5 B w) (hB : B ≤ w.heap.size) :
    Calls Tryd.prog 18 #[.string S, .int .u8 fn, .int .i32 arg] w (RetV (.bool true) w) := by
  have hr := read_text_I ha (by rw [ht] : (textI fn arg).2 = 0)
  rw [ht] at hr
  have HR := Lib.hid (pRead S hs B w hL hB)
  have HT := Lib.hid (fun w h1 h2 => pText fn arg hf ha B w h1 h2)
  have HS := Lib.hid (S5.start hL hB)
  unfold readIV at HR
  rw [hr] at HR
  unfold textV at HT
  rw [ht] at HT
  have eS : strB S.data.toList = S := rfl
  simp only [eS] at HT
  have hE := instEq_same fn arg
  clear hr ht hL eS
  go_enter Tryd.func18, Tryd.ntmps18
  go_wp2_with (first
    | (go_at_call 17; refine HR.out.mono ?_; rintro e w1 ⟨rfl, hb1⟩)
    | (go_at_call 10; have HS2 := Lib.hid ((HS.out.call hb1).alloc (.cells #[.int .u8 fn, .int .i32 arg] 23)); have bX0 := Blk.new w1 23 #[.int .u8 fn, .int .i32 arg]; refine (HT.out _ HS2.out.l HS2.out.b).mono ?_; rintro e w2 ⟨rfl, hb2⟩;
       have bX := bX0.call hb2; have q0 := bX.cell 0; have q1 := bX.cell 1; simp at q0 q1; clear bX0 bX))
  go_ret
  exact ⟨rfl, (HS2.out.call hb2).k⟩
end Go.Proofs.YtaakhhnlmldegaaDoor
