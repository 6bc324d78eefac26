/- Texts that belong together, joined: what each one holds is told ahead of it. -/
import Derived.Test.YtekamebpjjkifaaHK28
import Derived.Test.YtekamebpjjkifaaHK27
import Derived.Test.YtekamebpjjkifaaHK2
import Derived.Test.YtekamebpjjkifaaHK8
/- Channels, places and expressions of a process itself, in the document: typed whole; what is right for a process, by the document's words. -/
namespace Go.Proofs.Ytekamebpjjkifaa
open Go.RowKit
set_option linter.unusedSimpArgs false
set_option linter.unusedVariables false

def typedB (vs : List KVar) (nc : Nat) (p : KP) : Bool :=
  match p.kind with
  | 3 => decide (0 ≤ p.v ∧ p.v < vs.length)
  | 4 => assignsB vs p.tos p.e
  | 5 => inputA vs nc p.c p.item p.tos
  | 6 => channelB nc p.c p.item 0 && FitsA vs p.e p.item
  | 7 => placeA vs p.tos 1
  | 8 => FitsA vs p.e 1
  | 13 => FitsA vs p.e 3
  | k => p.g.all (guardB vs nc (k == 12))
theorem shape_int (p : KP) (ch v : Bool) (t0 t1 e0 e1 g0 g1 l0 l1 : Nat) : shapeB p ch v t0 t1 e0 e1 g0 g1 l0 l1 = shapeI p.c p.v p.item p.tos.length p.e.length p.g.length p.l.length ch v t0 t1 e0 e1 g0 g1 l0 l1 := by
  simp only [shapeB, shapeI, inI]
  congr 1
  · congr 1
    · congr 1
      · congr 1
        rw [decide_eq_decide]; omega
      · rw [decide_eq_decide]; omega
    · rw [decide_eq_decide]; omega
  · rw [decide_eq_decide]; omega
theorem no_guards {p : KP} {f : KG → Bool} (h : p.g.length = 0) : p.g.all f = true := by rw [len_zero h]; rfl
theorem shapeI_g {c v : Int} {item m1 m2 m3 m4 : Nat} {ch vv : Bool} {a0 a1 b0 b1 d0 d1 : Int} (h : shapeI c v item m1 m2 m3 m4 ch vv a0 a1 b0 b1 0 0 d0 d1 = true) : m3 = 0 := by
  simp only [shapeI, inI, Bool.and_eq_true, decide_eq_true_eq] at h
  omega
theorem and_g {S : Bool} {p : KP} {f : KG → Bool} (h : S = true → p.g.length = 0) : S = (S && p.g.all f) := by
  cases S with
  | false => rfl
  | true => rw [no_guards (h rfl)]; rfl
theorem and_len (vs : List KVar) (p : KP) : (decide (p.tos.length = p.e.length) && assignsB vs p.tos p.e) = assignsB vs p.tos p.e := by
  by_cases h : p.tos.length = p.e.length
  · rw [decide_eq_true h]; rfl
  · rw [assignsB_len vs p.tos p.e h, Bool.and_false]
/-- What is right for a process: the document's two words. -/
theorem checkB_ref (vs : List KVar) (nc : Nat) (p : KP) : checkB vs nc p = (looksB p && typedB vs nc p) := by
  obtain ⟨kd, c, v, item, At, ct, tos, Ae, ce, e, Ag, cg, g, Al, cl, l⟩ := p
  match kd with
  | 0 => rfl
  | 1 => exact (shape_int _ false false 0 0 0 0 0 0 0 0).trans (and_g (fun h => shapeI_g h))
  | 2 => exact (shape_int _ false false 0 0 0 0 0 0 0 0).trans (and_g (fun h => shapeI_g h))
  | 3 => exact congrArg (· && _) (shape_int _ false true 0 0 0 0 0 0 0 0)
  | 4 => exact (Bool.and_assoc _ _ _).trans ((congrArg (shapeB _ false false 1 8 1 8 0 0 0 0 && ·) (and_len vs ⟨4, c, v, item, At, ct, tos, Ae, ce, e, Ag, cg, g, Al, cl, l⟩)).trans (congrArg (· && _) (shape_int _ false false 1 8 1 8 0 0 0 0)))
  | 5 => exact congrArg (· && _) (shape_int _ true false 1 1 0 0 0 0 0 0)
  | 6 => exact (Bool.and_assoc _ _ _).trans (congrArg (· && _) (shape_int _ true false 0 0 1 1 0 0 0 0))
  | 7 => exact congrArg (· && _) (shape_int _ false false 1 1 0 0 0 0 0 0)
  | 8 => exact congrArg (· && _) (shape_int _ false false 0 0 1 1 0 0 0 0)
  | 9 => exact (shape_int _ false false 0 0 0 0 0 0 0 2048).trans (and_g (fun h => shapeI_g h))
  | 10 => exact (shape_int _ false false 0 0 0 0 0 0 0 16).trans (and_g (fun h => shapeI_g h))
  | 11 => exact (shape_int _ false false 0 0 0 0 0 0 2 2).trans (and_g (fun h => shapeI_g h))
  | 12 => exact congrArg (· && _) (shape_int _ false false 0 0 0 0 0 16 0 0)
  | 13 => exact congrArg (· && _) (shape_int _ false false 0 0 1 1 0 0 1 1)
  | 14 => exact congrArg (· && _) (shape_int _ false false 0 0 0 0 0 16 0 0)
  | 15 => exact congrArg (· && _) (shape_int _ false false 0 0 0 0 0 16 0 0)
  | n + 16 => rfl
set_option maxRecDepth 100000 in
theorem rTyped (k : KK) (p : KP) (hl : looksB p = true) (B : Nat) (w : World) (hk : k.In w B) (ok : KOk k) (hi : p.One w B) (hB : B ≤ w.heap.size) :
    Calls Try.prog 41 #[.agg k.flat, .agg p.cells] w (RetV (.bool (typedB k.vars k.chans.length p)) w) := by
  have hS : ∀ f, formK p.kind = some f → shapeI p.c p.v p.item p.tos.length p.e.length p.g.length p.l.length f.c f.v f.a0 f.a1 f.b0 f.b1 f.c0 f.c1 f.d0 f.d1 = true := by
    intro f hf
    unfold looksB at hl
    rw [hf] at hl
    exact hl
  have hlen : ∀ f, formK p.kind = some f → f.a0 ≤ p.tos.length ∧ p.tos.length ≤ f.a1 ∧ f.b0 ≤ p.e.length ∧ p.e.length ≤ f.b1 ∧ f.c0 ≤ p.g.length ∧ p.g.length ≤ f.c1 := by
    intro f hf
    have := hS f hf
    simp only [shapeI, inI, Bool.and_eq_true, decide_eq_true_eq] at this
    omega
  unfold typedB
  split
  · rename_i h; exact rTyped_3 k p h B w hk ok hi hB
  · rename_i h
    have := hlen ⟨false, false, false, 1, 8, 1, 8, 0, 0, 0, 0⟩ (by rw [h]; rfl)
    simp only at this
    exact rTyped_4 k p h (by omega) (by omega) B w hk ok hi hB
  · rename_i h
    have := hlen ⟨true, false, true, 1, 1, 0, 0, 0, 0, 0, 0⟩ (by rw [h]; rfl)
    simp only at this
    exact rTyped_5 k p h (by omega) B w hk ok hi hB
  · rename_i h
    have := hlen ⟨true, false, true, 0, 0, 1, 1, 0, 0, 0, 0⟩ (by rw [h]; rfl)
    simp only at this
    exact rTyped_6 k p h (by omega) B w hk ok hi hB
  · rename_i h
    have := hlen ⟨false, false, false, 1, 1, 0, 0, 0, 0, 0, 0⟩ (by rw [h]; rfl)
    simp only at this
    exact rTyped_7 k p h (by omega) B w hk ok hi hB
  · rename_i h
    have := hlen ⟨false, false, false, 0, 0, 1, 1, 0, 0, 0, 0⟩ (by rw [h]; rfl)
    simp only at this
    exact rTyped_8 k p h (by omega) B w hk ok hi hB
  · rename_i h
    have := hlen ⟨false, false, false, 0, 0, 1, 1, 0, 0, 1, 1⟩ (by rw [h]; rfl)
    simp only at this
    exact rTyped_13 k p h (by omega) B w hk ok hi hB
  · exact rTyped_g k p (by simp_all) B w hk ok hi hB
end Go.Proofs.Ytekamebpjjkifaa

/- The check of a kind's process, walked in the program: choice; each check answers what is right. -/
namespace Go.Proofs.Ytekamebpjjkifaa
open Go.RowKit
set_option linter.unusedSimpArgs false
set_option linter.unusedVariables false

set_option maxRecDepth 100000 in
set_option maxHeartbeats 4000000 in
theorem k_choice (k : KK) (n : Int) (p : KP) (B bc : Nat) (w : World) (hc : Chk w B bc k n) (hi : p.One w B) :
    Calls Try.prog 65 #[.pointer (some ⟨bc, 0, none⟩), .agg p.cells] w (RetV (.bool (shapeP p false false 0 0 0 0 0 16 0 0 && p.g.all (guardB k.vars k.chans.length (p.kind == 12)))) w) := by
  obtain ⟨W0, hW0⟩ : ∃ W, (w.alloc (.cells #[.pointer (some ⟨bc, 0, none⟩)] 106)).alloc (.cells p.cells 31) = W := ⟨_, rfl⟩
  obtain ⟨l1, l2, l3⟩ := lay2 w #[.pointer (some ⟨bc, 0, none⟩)] p.cells 106 31
  rw [hW0] at l1 l2 l3
  have HK0 := Lib.hid l1
  have HCA := Lib.hid (show ChAt W0 B bc w.heap.size (w.heap.size + 1) k n p.cells from ⟨hc.call l1, l2, l3⟩)
  have HC := Lib.hid (fun (w1 : World) (hb : Below W0.heap.size W0 w1) => kContainsG k n p B bc w.heap.size (w.heap.size + 1) w1 (HCA.out.call hb) ((hi.below (l1.mono hc.leB)).below (hb.mono (Nat.le_trans hc.leB l1.size))))
  have HB0 := Lib.hid l3
  have HSh := Lib.hid (fun w1 => kShapeP_ff p 0 0 0 0 0 16 0 0 w1)
  generalize p.g.all (guardB k.vars k.chans.length (p.kind == 12)) = ga at *
  generalize shapeP p false false 0 0 0 0 0 16 0 0 = sb at *
  simp only [KP.cells] at hW0 l3 HB0 HSh ⊢
  generalize p.g.length = mg at *
  have e0 := l3.cell 0
  have e1 := l3.cell 1
  have e2 := l3.cell 2
  have e3 := l3.cell 3
  have e4 := l3.cell 4
  have e5 := l3.cell 5
  have e6 := l3.cell 6
  have e7 := l3.cell 7
  simp at e0 e1 e2 e3 e4 e5 e6 e7
  clear l1 l2 l3 hc hi
  cases sb with
  | false =>
    go_enter Try.func65, Try.ntmps65
    go_wp2_with (go_at_call 70; (with_reducible refine (HSh.out _).mono ?_); rintro e1 w1 ⟨rfl, hb1⟩)
    go_ret
    exact ⟨rfl, HK0.out.trans (hb1.mono HK0.out.size)⟩
  | true =>
    go_enter Try.func65, Try.ntmps65
    go_wp2_with (first
      | (go_at_call 70; (with_reducible refine (HSh.out _).mono ?_); rintro e1 w1 ⟨rfl, hb1⟩
         have x1 := HB0.out.call hb1
         have f0 := x1.cell 0
         have f1 := x1.cell 1
         have f2 := x1.cell 2
         have f3 := x1.cell 3
         have f4 := x1.cell 4
         have f5 := x1.cell 5
         have f6 := x1.cell 6
         have f7 := x1.cell 7
         simp at f0 f1 f2 f3 f4 f5 f6 f7
         have HB1 := Lib.hid hb1
         clear x1 hb1)
      | (go_at_call 75; (with_reducible refine (HC.out _ HB1.out).mono ?_); rintro e2 w2 ⟨rfl, hb2⟩))
    go_ret
    exact ⟨by simp, HK0.out.trans ((HB1.out.trans (hb2.mono HB1.out.size)).mono HK0.out.size)⟩
theorem ofB {F : Nat} {args : Array Value} {w : World} {a b : Bool} (h : a = b) (hc : Calls Try.prog F args w (RetV (.bool b) w)) : Calls Try.prog F args w (RetV (.bool a) w) := h ▸ hc
/-- The check of a kind is a function that answers whether a process of that kind is right. -/
theorem checkV_ok (k : KK) (n : Int) (p : KP) (B bc : Nat) (hf : checkV bc p.kind ≠ Value.nilFunc) :
    ∃ F : Nat, checkV bc p.kind = .func (.func F) #[.pointer (some ⟨bc, 0, none⟩)] #[] ∧ (∀ args w, (callFunc F args).run Try.prog w = .ok (.enter F args) w) ∧ ∀ w, Chk w B bc k n → p.One w B → Calls Try.prog F #[.pointer (some ⟨bc, 0, none⟩), .agg p.cells] w (RetV (.bool (checkB k.vars k.chans.length p)) w) := by
  obtain ⟨kd, c, v, item, At, ct, tos, Ae, ce, e, Ag, cg, g, Al, cl, l⟩ := p
  match kd with
  | 0 => exact absurd rfl hf
  | 1 => exact ⟨_, rfl, enters_of Try.func55 (by kernel_rfl) rfl, fun w hc hi => ofB (shape_int ⟨1, c, v, item, At, ct, tos, Ae, ce, e, Ag, cg, g, Al, cl, l⟩ false false 0 0 0 0 0 0 0 0) (k_nothing k n ⟨1, c, v, item, At, ct, tos, Ae, ce, e, Ag, cg, g, Al, cl, l⟩ B bc w hc hi)⟩
  | 2 => exact ⟨_, rfl, enters_of Try.func55 (by kernel_rfl) rfl, fun w hc hi => ofB (shape_int ⟨2, c, v, item, At, ct, tos, Ae, ce, e, Ag, cg, g, Al, cl, l⟩ false false 0 0 0 0 0 0 0 0) (k_nothing k n ⟨2, c, v, item, At, ct, tos, Ae, ce, e, Ag, cg, g, Al, cl, l⟩ B bc w hc hi)⟩
  | 3 => exact ⟨_, rfl, enters_of Try.func56 (by kernel_rfl) rfl, fun w hc hi => ofB (congrArg (· && _) (shape_int ⟨3, c, v, item, At, ct, tos, Ae, ce, e, Ag, cg, g, Al, cl, l⟩ false true 0 0 0 0 0 0 0 0)) (k_clear k n ⟨3, c, v, item, At, ct, tos, Ae, ce, e, Ag, cg, g, Al, cl, l⟩ B bc w hc hi)⟩
  | 4 => exact ⟨_, rfl, enters_of Try.func57 (by kernel_rfl) rfl, fun w hc hi => ofB ((Bool.and_assoc _ _ _).trans (congrArg (· && _) (shape_int ⟨4, c, v, item, At, ct, tos, Ae, ce, e, Ag, cg, g, Al, cl, l⟩ false false 1 8 1 8 0 0 0 0))) (k_assign k n ⟨4, c, v, item, At, ct, tos, Ae, ce, e, Ag, cg, g, Al, cl, l⟩ B bc w hc hi)⟩
  | 5 => exact ⟨_, rfl, enters_of Try.func58 (by kernel_rfl) rfl, fun w hc hi => ofB (congrArg (· && _) (shape_int ⟨5, c, v, item, At, ct, tos, Ae, ce, e, Ag, cg, g, Al, cl, l⟩ true false 1 1 0 0 0 0 0 0)) (k_in k n ⟨5, c, v, item, At, ct, tos, Ae, ce, e, Ag, cg, g, Al, cl, l⟩ B bc w hc hi)⟩
  | 6 => exact ⟨_, rfl, enters_of Try.func59 (by kernel_rfl) rfl, fun w hc hi => ofB (congrArg (· && _) (congrArg (· && _) (shape_int ⟨6, c, v, item, At, ct, tos, Ae, ce, e, Ag, cg, g, Al, cl, l⟩ true false 0 0 1 1 0 0 0 0))) (k_out k n ⟨6, c, v, item, At, ct, tos, Ae, ce, e, Ag, cg, g, Al, cl, l⟩ B bc w hc hi)⟩
  | 7 => exact ⟨_, rfl, enters_of Try.func60 (by kernel_rfl) rfl, fun w hc hi => ofB (congrArg (· && _) (shape_int ⟨7, c, v, item, At, ct, tos, Ae, ce, e, Ag, cg, g, Al, cl, l⟩ false false 1 1 0 0 0 0 0 0)) (k_time k n ⟨7, c, v, item, At, ct, tos, Ae, ce, e, Ag, cg, g, Al, cl, l⟩ B bc w hc hi)⟩
  | 8 => exact ⟨_, rfl, enters_of Try.func61 (by kernel_rfl) rfl, fun w hc hi => ofB (congrArg (· && _) (shape_int ⟨8, c, v, item, At, ct, tos, Ae, ce, e, Ag, cg, g, Al, cl, l⟩ false false 0 0 1 1 0 0 0 0)) (k_after k n ⟨8, c, v, item, At, ct, tos, Ae, ce, e, Ag, cg, g, Al, cl, l⟩ B bc w hc hi)⟩
  | 9 => exact ⟨_, rfl, enters_of Try.func62 (by kernel_rfl) rfl, fun w hc hi => ofB (shape_int ⟨9, c, v, item, At, ct, tos, Ae, ce, e, Ag, cg, g, Al, cl, l⟩ false false 0 0 0 0 0 0 0 2048) (k_seq k n ⟨9, c, v, item, At, ct, tos, Ae, ce, e, Ag, cg, g, Al, cl, l⟩ B bc w hc hi)⟩
  | 10 => exact ⟨_, rfl, enters_of Try.func63 (by kernel_rfl) rfl, fun w hc hi => ofB (shape_int ⟨10, c, v, item, At, ct, tos, Ae, ce, e, Ag, cg, g, Al, cl, l⟩ false false 0 0 0 0 0 0 0 16) (k_par k n ⟨10, c, v, item, At, ct, tos, Ae, ce, e, Ag, cg, g, Al, cl, l⟩ B bc w hc hi)⟩
  | 11 => exact ⟨_, rfl, enters_of Try.func64 (by kernel_rfl) rfl, fun w hc hi => ofB (shape_int ⟨11, c, v, item, At, ct, tos, Ae, ce, e, Ag, cg, g, Al, cl, l⟩ false false 0 0 0 0 0 0 2 2) (k_pri k n ⟨11, c, v, item, At, ct, tos, Ae, ce, e, Ag, cg, g, Al, cl, l⟩ B bc w hc hi)⟩
  | 12 => exact ⟨_, rfl, enters_of Try.func65 (by kernel_rfl) rfl, fun w hc hi => ofB (congrArg (· && _) (shape_int ⟨12, c, v, item, At, ct, tos, Ae, ce, e, Ag, cg, g, Al, cl, l⟩ false false 0 0 0 0 0 16 0 0)) (k_choice k n ⟨12, c, v, item, At, ct, tos, Ae, ce, e, Ag, cg, g, Al, cl, l⟩ B bc w hc hi)⟩
  | 13 => exact ⟨_, rfl, enters_of Try.func66 (by kernel_rfl) rfl, fun w hc hi => ofB (congrArg (· && _) (shape_int ⟨13, c, v, item, At, ct, tos, Ae, ce, e, Ag, cg, g, Al, cl, l⟩ false false 0 0 1 1 0 0 1 1)) (k_loop k n ⟨13, c, v, item, At, ct, tos, Ae, ce, e, Ag, cg, g, Al, cl, l⟩ B bc w hc hi)⟩
  | 14 => exact ⟨_, rfl, enters_of Try.func65 (by kernel_rfl) rfl, fun w hc hi => ofB (congrArg (· && _) (shape_int ⟨14, c, v, item, At, ct, tos, Ae, ce, e, Ag, cg, g, Al, cl, l⟩ false false 0 0 0 0 0 16 0 0)) (k_choice k n ⟨14, c, v, item, At, ct, tos, Ae, ce, e, Ag, cg, g, Al, cl, l⟩ B bc w hc hi)⟩
  | 15 => exact ⟨_, rfl, enters_of Try.func65 (by kernel_rfl) rfl, fun w hc hi => ofB (congrArg (· && _) (shape_int ⟨15, c, v, item, At, ct, tos, Ae, ce, e, Ag, cg, g, Al, cl, l⟩ false false 0 0 0 0 0 16 0 0)) (k_choice k n ⟨15, c, v, item, At, ct, tos, Ae, ce, e, Ag, cg, g, Al, cl, l⟩ B bc w hc hi)⟩
  | m + 16 => exact absurd rfl hf
theorem checkV_nil {bc : Nat} {vs : List KVar} {nc : Nat} {p : KP} (hf : checkV bc p.kind = Value.nilFunc) : checkB vs nc p = false := by
  obtain ⟨kd, c, v, item, At, ct, tos, Ae, ce, e, Ag, cg, g, Al, cl, l⟩ := p
  match kd with
  | 0 => rfl
  | 1 | 2 | 3 | 4 | 5 | 6 | 7 | 8 | 9 | 10 | 11 | 12 | 13 | 14 | 15 => cases hf
  | m + 16 => rfl
end Go.Proofs.Ytekamebpjjkifaa

/- A process of a kernel, walked in the program: the words; what is refused at once. -/
namespace Go.Proofs.Ytekamebpjjkifaa
open Go.RowKit
set_option linter.unusedSimpArgs false
set_option linter.unusedVariables false

theorem fn_eqIn0 (w : World) (d : Nat) : (Op.equalIn (d + 1) 112 Value.nilFunc Value.nilFunc).run Try.prog w = .ok true w := by
  simp [Op.equalIn, run_underlying (Try.underlying112)]
theorem fn_eqIn1 (w : World) (d : Nat) (f : Fn) (a b : Array Value) : (Op.equalIn (d + 1) 112 (.func f a b) Value.nilFunc).run Try.prog w = .ok false w := by
  simp [Op.equalIn, run_underlying (Try.underlying112)]
@[go_sem ↓] theorem fn_nil (w : World) : (binOp .eql 112 Value.nilFunc Value.nilFunc).run Try.prog w = .ok (.bool true) w := by
  have h : (Op.equal 112 Value.nilFunc Value.nilFunc).run Try.prog w = .ok true w := fn_eqIn0 w 9999
  simp only [binOp]
  simp [h]
@[go_sem ↓] theorem fn_some (w : World) (f : Fn) (a b : Array Value) : (binOp .eql 112 (.func f a b) Value.nilFunc).run Try.prog w = .ok (.bool false) w := by
  have h : (Op.equal 112 (.func f a b) Value.nilFunc).run Try.prog w = .ok false w := fn_eqIn1 w 9999 f a b
  simp only [binOp]
  simp [h]
def chkRow (k : KK) (z : Int) : Array Value := (k.row ++ [Value.int .i64 z]).toArray
/-- What process answers: whether the process is right there, and how many are left. -/
def RetPr (R : Option Nat) (bc : Nat) (k : KK) (w : World) (e : Ending) (w' : World) : Prop :=
  UpdB bc w w' ∧ ∃ (b : Bool) (z : Int), e = .returned (.bool b) ∧ Blk w' bc 108 (chkRow k z) ∧ (R = none ∧ b = false ∨ ∃ r : Nat, R = some r ∧ b = true ∧ z = r)
def ProcOk (k : KK) (p : KP) : Prop := ∀ (deep left : Nat) (high : Bool) (B bc : Nat) (w : World), deep ≤ 32 → left ≤ 2048 → Chk w B bc k left → p.In w B →
  Calls Try.prog 35 #[.pointer (some ⟨bc, 0, none⟩), .agg p.cells, .int .i64 ((deep : Int) + 1), .bool high] w (RetPr (roomP k.vars k.chans.length deep high left p) bc k w)
theorem Chk.upd {w w' : World} {B bc : Nat} {k : KK} {n z : Int} (h : Chk w B bc k n) (hu : UpdB bc w w') (hb : Blk w' bc 108 (chkRow k z)) : Chk w' B bc k z := ⟨hb, h.inn.below ((hu.below h.lt).mono h.le), h.le, h.ok⟩
/-- The checker and the process's box, in a world. -/
structure PrAt (w W : World) (B bc : Nat) (k : KK) (n : Int) (ps : Array Value) : Prop where
  upd : UpdB bc w W
  pb : Blk W w.heap.size 31 ps
  chk : Chk W B bc k n
  lt : bc < w.heap.size
section
variable {w W W1 : World} {B bc : Nat} {k : KK} {n z : Int} {ps : Array Value}
theorem PrAt.call (h : PrAt w W B bc k n ps) (hb : Below W.heap.size W W1) : PrAt w W1 B bc k n ps := ⟨h.upd.trans (UpdB.of_below hb), h.pb.call hb, h.chk.call hb, h.lt⟩
theorem PrAt.step (h : PrAt w W B bc k n ps) (hu : UpdB bc W W1) (hb : Blk W1 bc 108 (chkRow k z)) : PrAt w W1 B bc k z ps :=
  ⟨h.upd.trans hu, h.pb.upd hu (by have := h.lt; omega), h.chk.upd hu hb, h.lt⟩
theorem PrAt.low (h : PrAt w W B bc k n ps) {p : KP} (hi : p.In w B) : p.In W B := hi.below ((h.upd.below h.lt).mono h.chk.le)
theorem PrAt.low1 (h : PrAt w W B bc k n ps) {p : KP} (hi : p.One w B) : p.One W B := hi.below ((h.upd.below h.lt).mono h.chk.le)
end
/-- One taken off. -/
theorem prAt_start {w : World} {B bc : Nat} {k : KK} {n : Int} {ps : Array Value} (hc : Chk w B bc k n) : PrAt w ((w.alloc (.cells ps 31)).setCell ⟨bc, 11, none⟩ (.int .i64 (n - 1))) B bc k (n - 1) ps := by
  have K0 : Below w.heap.size w (w.alloc (.cells ps 31)) := (Below.refl _ _).alloc (Nat.le_refl _) _
  have b0 := hc.blk.call K0
  have b1 := b0.set_ 11 (.int .i64 (n - 1))
  have hu : UpdB bc w ((w.alloc (.cells ps 31)).setCell ⟨bc, 11, none⟩ (.int .i64 (n - 1))) := (UpdB.of_below K0).trans (UpdB.set _ 11 _)
  have e : ((k.row ++ [Value.int .i64 n]).toArray).setIfInBounds 11 (.int .i64 (n - 1)) = chkRow k (n - 1) := rfl
  rw [e] at b1
  exact ⟨hu, (Blk.new w _ _).far (by have := hc.lt; simp; omega) _, hc.upd hu b1, hc.lt⟩
set_option maxRecDepth 100000 in
set_option maxHeartbeats 4000000 in
theorem kProc_0 (k : KK) (p : KP) (deep left : Nat) (high : Bool) (B bc : Nat) (w : World) (hd : deep ≤ 32) (hl : left ≤ 2048) (hc : Chk w B bc k left) (hi : p.In w B) (h : left = 0) :
    Calls Try.prog 35 #[.pointer (some ⟨bc, 0, none⟩), .agg p.cells, .int .i64 ((deep : Int) + 1), .bool high] w (RetPr none bc k w) := by
  have S0 := prAt_start (ps := p.cells) hc
  have HCK := Lib.hid (fun w1 => k_check bc p.kind w1)
  have hone := hi.one
  have b0 := (hc.blk.call ((Below.refl w.heap.size w).alloc (Nat.le_refl _) (.cells p.cells 31)))
  have y1 : (left : Int) - 1 < 0 := by omega
  clear h
  obtain ⟨V, hV⟩ : ∃ V, checkV bc p.kind = V := ⟨_, rfl⟩
  rw [hV] at HCK
  clear hV
  generalize hW0 : w.alloc (.cells p.cells 31) = W0 at *
  generalize hW1 : W0.setCell ⟨bc, 11, none⟩ (.int .i64 ((left : Int) - 1)) = W1 at *
  have S : Hid (PrAt w W1 B bc k ((left : Int) - 1) p.cells) := Lib.hid S0
  have z11 : W0.cell? ⟨bc, 11, none⟩ = some (.int .i64 left) := by have := b0.cell 11; simpa [KK.row, KP.cells] using this
  have f11 := b0.frozen 11
  simp only [KP.cells] at hW0 S ⊢
  have x1 := S.out.pb
  have x2 := S.out.chk.c11
  have bW0 : Blk W0 w.heap.size 31 #[.int .u8 p.kind, .int .i64 p.c, .int .i64 p.v, .int .u8 p.item, .slice p.At p.tos.length p.ct, .slice p.Ae p.e.length p.ce, .slice p.Ag p.g.length p.cg, .slice p.Al p.l.length p.cl] := by rw [← hW0]; exact Blk.new _ _ _
  have e0 := x1.cell 0
  have e1 := x1.cell 1
  have e2 := x1.cell 2
  have e3 := x1.cell 3
  have e4 := x1.cell 4
  have e5 := x1.cell 5
  have e6 := x1.cell 6
  have e7 := x1.cell 7
  simp at e0 e1 e2 e3 e4 e5 e6 e7
  clear x1 S0 b0 hc hi bW0 hone
  go_enter Try.func35, Try.ntmps35
  go_wp2_with (first
    | (go_at_call 45; (with_reducible refine (HCK.out _).mono ?_); rintro e1 w1 ⟨rfl, hb1⟩
       replace S := Lib.hid (S.out.call hb1)
       have x1 := S.out.pb
       have x2 := S.out.chk.c11
       have e0 := x1.cell 0
       have e1 := x1.cell 1
       have e2 := x1.cell 2
       have e3 := x1.cell 3
       have e4 := x1.cell 4
       have e5 := x1.cell 5
       have e6 := x1.cell 6
       have e7 := x1.cell 7
       simp at e0 e1 e2 e3 e4 e5 e6 e7
       clear x1 hb1))
  go_ret
  exact ⟨S.out.upd, false, _, rfl, S.out.chk.blk, .inl ⟨rfl, rfl⟩⟩
set_option maxRecDepth 100000 in
set_option maxHeartbeats 4000000 in
theorem kProc_32 (k : KK) (p : KP) (deep left : Nat) (high : Bool) (B bc : Nat) (w : World) (hd : deep ≤ 32) (hl : left ≤ 2048) (hc : Chk w B bc k left) (hi : p.In w B) (h0 : left ≠ 0) (h : deep = 32) :
    Calls Try.prog 35 #[.pointer (some ⟨bc, 0, none⟩), .agg p.cells, .int .i64 ((deep : Int) + 1), .bool high] w (RetPr none bc k w) := by
  have S0 := prAt_start (ps := p.cells) hc
  have HCK := Lib.hid (fun w1 => k_check bc p.kind w1)
  have hone := hi.one
  have b0 := (hc.blk.call ((Below.refl w.heap.size w).alloc (Nat.le_refl _) (.cells p.cells 31)))
  have y1 : ¬ (left : Int) - 1 < 0 := by omega
  have y2 : (32 : Int) < (deep : Int) + 1 := by omega
  clear h h0
  obtain ⟨V, hV⟩ : ∃ V, checkV bc p.kind = V := ⟨_, rfl⟩
  rw [hV] at HCK
  clear hV
  generalize hW0 : w.alloc (.cells p.cells 31) = W0 at *
  generalize hW1 : W0.setCell ⟨bc, 11, none⟩ (.int .i64 ((left : Int) - 1)) = W1 at *
  have S : Hid (PrAt w W1 B bc k ((left : Int) - 1) p.cells) := Lib.hid S0
  have z11 : W0.cell? ⟨bc, 11, none⟩ = some (.int .i64 left) := by have := b0.cell 11; simpa [KK.row, KP.cells] using this
  have f11 := b0.frozen 11
  simp only [KP.cells] at hW0 S ⊢
  have x1 := S.out.pb
  have x2 := S.out.chk.c11
  have bW0 : Blk W0 w.heap.size 31 #[.int .u8 p.kind, .int .i64 p.c, .int .i64 p.v, .int .u8 p.item, .slice p.At p.tos.length p.ct, .slice p.Ae p.e.length p.ce, .slice p.Ag p.g.length p.cg, .slice p.Al p.l.length p.cl] := by rw [← hW0]; exact Blk.new _ _ _
  have e0 := x1.cell 0
  have e1 := x1.cell 1
  have e2 := x1.cell 2
  have e3 := x1.cell 3
  have e4 := x1.cell 4
  have e5 := x1.cell 5
  have e6 := x1.cell 6
  have e7 := x1.cell 7
  simp at e0 e1 e2 e3 e4 e5 e6 e7
  clear x1 S0 b0 hc hi bW0 hone
  go_enter Try.func35, Try.ntmps35
  go_wp2_with (first
    | (go_at_call 45; (with_reducible refine (HCK.out _).mono ?_); rintro e1 w1 ⟨rfl, hb1⟩
       replace S := Lib.hid (S.out.call hb1)
       have x1 := S.out.pb
       have x2 := S.out.chk.c11
       have e0 := x1.cell 0
       have e1 := x1.cell 1
       have e2 := x1.cell 2
       have e3 := x1.cell 3
       have e4 := x1.cell 4
       have e5 := x1.cell 5
       have e6 := x1.cell 6
       have e7 := x1.cell 7
       simp at e0 e1 e2 e3 e4 e5 e6 e7
       clear x1 hb1))
  go_ret
  exact ⟨S.out.upd, false, _, rfl, S.out.chk.blk, .inl ⟨rfl, rfl⟩⟩
set_option maxRecDepth 100000 in
set_option maxHeartbeats 4000000 in
theorem kProc_nil (k : KK) (p : KP) (deep left : Nat) (high : Bool) (B bc : Nat) (w : World) (hd : deep ≤ 32) (hl : left ≤ 2048) (hc : Chk w B bc k left) (hi : p.In w B) (h0 : left ≠ 0) (h : deep < 32) (hV : checkV bc p.kind = Value.nilFunc) :
    Calls Try.prog 35 #[.pointer (some ⟨bc, 0, none⟩), .agg p.cells, .int .i64 ((deep : Int) + 1), .bool high] w (RetPr none bc k w) := by
  have S0 := prAt_start (ps := p.cells) hc
  have HCK := Lib.hid (fun w1 => k_check bc p.kind w1)
  have hone := hi.one
  have b0 := (hc.blk.call ((Below.refl w.heap.size w).alloc (Nat.le_refl _) (.cells p.cells 31)))
  have y1 : ¬ (left : Int) - 1 < 0 := by omega
  have y2 : ¬ (32 : Int) < (deep : Int) + 1 := by omega
  rw [hV] at HCK
  clear h h0 hV
  generalize hW0 : w.alloc (.cells p.cells 31) = W0 at *
  generalize hW1 : W0.setCell ⟨bc, 11, none⟩ (.int .i64 ((left : Int) - 1)) = W1 at *
  have S : Hid (PrAt w W1 B bc k ((left : Int) - 1) p.cells) := Lib.hid S0
  have z11 : W0.cell? ⟨bc, 11, none⟩ = some (.int .i64 left) := by have := b0.cell 11; simpa [KK.row, KP.cells] using this
  have f11 := b0.frozen 11
  simp only [KP.cells] at hW0 S ⊢
  have x1 := S.out.pb
  have x2 := S.out.chk.c11
  have bW0 : Blk W0 w.heap.size 31 #[.int .u8 p.kind, .int .i64 p.c, .int .i64 p.v, .int .u8 p.item, .slice p.At p.tos.length p.ct, .slice p.Ae p.e.length p.ce, .slice p.Ag p.g.length p.cg, .slice p.Al p.l.length p.cl] := by rw [← hW0]; exact Blk.new _ _ _
  have e0 := x1.cell 0
  have e1 := x1.cell 1
  have e2 := x1.cell 2
  have e3 := x1.cell 3
  have e4 := x1.cell 4
  have e5 := x1.cell 5
  have e6 := x1.cell 6
  have e7 := x1.cell 7
  simp at e0 e1 e2 e3 e4 e5 e6 e7
  clear x1 S0 b0 hc hi bW0 hone
  go_enter Try.func35, Try.ntmps35
  go_wp2_with (first
    | (go_at_call 45; (with_reducible refine (HCK.out _).mono ?_); rintro e1 w1 ⟨rfl, hb1⟩
       replace S := Lib.hid (S.out.call hb1)
       have x1 := S.out.pb
       have x2 := S.out.chk.c11
       have e0 := x1.cell 0
       have e1 := x1.cell 1
       have e2 := x1.cell 2
       have e3 := x1.cell 3
       have e4 := x1.cell 4
       have e5 := x1.cell 5
       have e6 := x1.cell 6
       have e7 := x1.cell 7
       simp at e0 e1 e2 e3 e4 e5 e6 e7
       clear x1 hb1))
  go_ret
  exact ⟨S.out.upd, false, _, rfl, S.out.chk.blk, .inl ⟨rfl, rfl⟩⟩
set_option maxRecDepth 100000 in
set_option maxHeartbeats 4000000 in
theorem kProc_no (k : KK) (p : KP) (deep left : Nat) (high : Bool) (B bc : Nat) (w : World) (hd : deep ≤ 32) (hl : left ≤ 2048) (hc : Chk w B bc k left) (hi : p.In w B) (h0 : left ≠ 0) (h : deep < 32) (hV : checkV bc p.kind ≠ Value.nilFunc) (hck : checkB k.vars k.chans.length p = false) :
    Calls Try.prog 35 #[.pointer (some ⟨bc, 0, none⟩), .agg p.cells, .int .i64 ((deep : Int) + 1), .bool high] w (RetPr none bc k w) := by
  have S0 := prAt_start (ps := p.cells) hc
  have HCK := Lib.hid (fun w1 => k_check bc p.kind w1)
  have hone := hi.one
  have b0 := (hc.blk.call ((Below.refl w.heap.size w).alloc (Nat.le_refl _) (.cells p.cells 31)))
  have y1 : ¬ (left : Int) - 1 < 0 := by omega
  have y2 : ¬ (32 : Int) < (deep : Int) + 1 := by omega
  obtain ⟨F, hF, hEN, hFC⟩ := checkV_ok k ((left : Int) - 1) p B bc hV
  rw [hF] at HCK
  have HIO := Lib.hid hone
  have HF := Lib.hid hFC
  rw [hck] at HF
  simp only [KP.cells] at HF
  clear h h0 hV hF hFC hck
  generalize hW0 : w.alloc (.cells p.cells 31) = W0 at *
  generalize hW1 : W0.setCell ⟨bc, 11, none⟩ (.int .i64 ((left : Int) - 1)) = W1 at *
  have S : Hid (PrAt w W1 B bc k ((left : Int) - 1) p.cells) := Lib.hid S0
  have z11 : W0.cell? ⟨bc, 11, none⟩ = some (.int .i64 left) := by have := b0.cell 11; simpa [KK.row, KP.cells] using this
  have f11 := b0.frozen 11
  simp only [KP.cells] at hW0 S ⊢
  have x1 := S.out.pb
  have x2 := S.out.chk.c11
  have bW0 : Blk W0 w.heap.size 31 #[.int .u8 p.kind, .int .i64 p.c, .int .i64 p.v, .int .u8 p.item, .slice p.At p.tos.length p.ct, .slice p.Ae p.e.length p.ce, .slice p.Ag p.g.length p.cg, .slice p.Al p.l.length p.cl] := by rw [← hW0]; exact Blk.new _ _ _
  have e0 := x1.cell 0
  have e1 := x1.cell 1
  have e2 := x1.cell 2
  have e3 := x1.cell 3
  have e4 := x1.cell 4
  have e5 := x1.cell 5
  have e6 := x1.cell 6
  have e7 := x1.cell 7
  simp at e0 e1 e2 e3 e4 e5 e6 e7
  clear x1 S0 b0 hc hi bW0 hone
  go_enter Try.func35, Try.ntmps35
  go_wp2_with (first
    | (go_at_call 45; (with_reducible refine (HCK.out _).mono ?_); rintro e1 w1 ⟨rfl, hb1⟩
       replace S := Lib.hid (S.out.call hb1)
       have x1 := S.out.pb
       have x2 := S.out.chk.c11
       have e0 := x1.cell 0
       have e1 := x1.cell 1
       have e2 := x1.cell 2
       have e3 := x1.cell 3
       have e4 := x1.cell 4
       have e5 := x1.cell 5
       have e6 := x1.cell 6
       have e7 := x1.cell 7
       simp at e0 e1 e2 e3 e4 e5 e6 e7
       clear x1 hb1)
    | ((with_reducible refine (HF.out _ S.out.chk (S.out.low1 HIO.out)).mono ?_); rintro e1 w1 ⟨rfl, hb1⟩
       replace S := Lib.hid (S.out.call hb1)
       have x1 := S.out.pb
       have x2 := S.out.chk.c11
       have e0 := x1.cell 0
       have e1 := x1.cell 1
       have e2 := x1.cell 2
       have e3 := x1.cell 3
       have e4 := x1.cell 4
       have e5 := x1.cell 5
       have e6 := x1.cell 6
       have e7 := x1.cell 7
       simp at e0 e1 e2 e3 e4 e5 e6 e7
       clear x1 hb1))
  go_ret
  exact ⟨S.out.upd, false, _, rfl, S.out.chk.blk, .inl ⟨rfl, rfl⟩⟩
set_option maxRecDepth 100000 in
set_option maxHeartbeats 4000000 in
theorem kProc_high (k : KK) (p : KP) (deep left : Nat) (high : Bool) (B bc : Nat) (w : World) (hd : deep ≤ 32) (hl : left ≤ 2048) (hc : Chk w B bc k left) (hi : p.In w B) (h0 : left ≠ 0) (h : deep < 32) (hV : checkV bc p.kind ≠ Value.nilFunc) (hck : checkB k.vars k.chans.length p = true) (hh : high = true) (h11 : p.kind = 11) :
    Calls Try.prog 35 #[.pointer (some ⟨bc, 0, none⟩), .agg p.cells, .int .i64 ((deep : Int) + 1), .bool high] w (RetPr none bc k w) := by
  have S0 := prAt_start (ps := p.cells) hc
  have HCK := Lib.hid (fun w1 => k_check bc p.kind w1)
  have hone := hi.one
  have b0 := (hc.blk.call ((Below.refl w.heap.size w).alloc (Nat.le_refl _) (.cells p.cells 31)))
  have y1 : ¬ (left : Int) - 1 < 0 := by omega
  have y2 : ¬ (32 : Int) < (deep : Int) + 1 := by omega
  obtain ⟨F, hF, hEN, hFC⟩ := checkV_ok k ((left : Int) - 1) p B bc hV
  rw [hF] at HCK
  have HIO := Lib.hid hone
  have HF := Lib.hid hFC
  rw [hck] at HF
  simp only [KP.cells] at HF
  clear h h0 hV hF hFC hck
  subst hh
  have y11 : ((p.kind : Int) == 11) = true := by simp [h11]
  clear h11
  generalize hW0 : w.alloc (.cells p.cells 31) = W0 at *
  generalize hW1 : W0.setCell ⟨bc, 11, none⟩ (.int .i64 ((left : Int) - 1)) = W1 at *
  have S : Hid (PrAt w W1 B bc k ((left : Int) - 1) p.cells) := Lib.hid S0
  have z11 : W0.cell? ⟨bc, 11, none⟩ = some (.int .i64 left) := by have := b0.cell 11; simpa [KK.row, KP.cells] using this
  have f11 := b0.frozen 11
  simp only [KP.cells] at hW0 S ⊢
  have x1 := S.out.pb
  have x2 := S.out.chk.c11
  have bW0 : Blk W0 w.heap.size 31 #[.int .u8 p.kind, .int .i64 p.c, .int .i64 p.v, .int .u8 p.item, .slice p.At p.tos.length p.ct, .slice p.Ae p.e.length p.ce, .slice p.Ag p.g.length p.cg, .slice p.Al p.l.length p.cl] := by rw [← hW0]; exact Blk.new _ _ _
  have e0 := x1.cell 0
  have e1 := x1.cell 1
  have e2 := x1.cell 2
  have e3 := x1.cell 3
  have e4 := x1.cell 4
  have e5 := x1.cell 5
  have e6 := x1.cell 6
  have e7 := x1.cell 7
  simp at e0 e1 e2 e3 e4 e5 e6 e7
  clear x1 S0 b0 hc hi bW0 hone
  go_enter Try.func35, Try.ntmps35
  go_wp2_with (first
    | (go_at_call 45; (with_reducible refine (HCK.out _).mono ?_); rintro e1 w1 ⟨rfl, hb1⟩
       replace S := Lib.hid (S.out.call hb1)
       have x1 := S.out.pb
       have x2 := S.out.chk.c11
       have e0 := x1.cell 0
       have e1 := x1.cell 1
       have e2 := x1.cell 2
       have e3 := x1.cell 3
       have e4 := x1.cell 4
       have e5 := x1.cell 5
       have e6 := x1.cell 6
       have e7 := x1.cell 7
       simp at e0 e1 e2 e3 e4 e5 e6 e7
       clear x1 hb1)
    | ((with_reducible refine (HF.out _ S.out.chk (S.out.low1 HIO.out)).mono ?_); rintro e1 w1 ⟨rfl, hb1⟩
       replace S := Lib.hid (S.out.call hb1)
       have x1 := S.out.pb
       have x2 := S.out.chk.c11
       have e0 := x1.cell 0
       have e1 := x1.cell 1
       have e2 := x1.cell 2
       have e3 := x1.cell 3
       have e4 := x1.cell 4
       have e5 := x1.cell 5
       have e6 := x1.cell 6
       have e7 := x1.cell 7
       simp at e0 e1 e2 e3 e4 e5 e6 e7
       clear x1 hb1))
  go_ret
  exact ⟨S.out.upd, false, _, rfl, S.out.chk.blk, .inl ⟨rfl, rfl⟩⟩
end Go.Proofs.Ytekamebpjjkifaa

/- How many processes are left, in the document: left, walked. -/
namespace Go.Proofs.Ytekamebpjjkifaa
open Go.RowKit
set_option linter.unusedSimpArgs false
set_option linter.unusedVariables false

def innerV (k : KK) (deep : Int) (high : Bool) : Array Value := #[.slice k.Av k.vars.length k.cv, .slice k.Ac k.chans.length k.cc, .int .u8 k.root.kind, .int .i64 k.root.c, .int .i64 k.root.v, .int .u8 k.root.item, .slice k.root.At k.root.tos.length k.root.ct, .slice k.root.Ae k.root.e.length k.root.ce, .slice k.root.Ag k.root.g.length k.root.cg, .slice k.root.Al k.root.l.length k.root.cl, .slice k.Ap k.procs.length k.cp, .int .i64 deep, .bool high]
def LeftOk (k : KK) (p : KP) : Prop := ∀ (deep n : Nat) (high : Bool) (B : Nat) (w : World), deep ≤ 32 → n ≤ 2048 → k.In w B → p.In w B → B ≤ w.heap.size →
  Calls Try.prog 29 #[.agg (innerV k deep high), .agg p.cells, .int .i64 n] w (RetV (.int .i64 (roomZ (roomP k.vars k.chans.length deep high n p))) w)
/-- The boxes of left, in a world. -/
structure LfAt (w W : World) (ks ps : Array Value) : Prop where
  bel : Below w.heap.size w W
  kb : Blk W w.heap.size 86 ks
  pb : Blk W (w.heap.size + 1) 31 ps
theorem LfAt.call {w W W1 : World} {ks ps : Array Value} (h : LfAt w W ks ps) (hb : Below W.heap.size W W1) : LfAt w W1 ks ps := ⟨h.bel.trans (hb.mono h.bel.size), h.kb.call hb, h.pb.call hb⟩
theorem roomZ_neg (o : Option Nat) : (0 ≤ roomZ o ↔ o ≠ none) := by cases o <;> simp [roomZ]
section
variable {vs : List KVar} {nc : Nat}
theorem roomPs_take_none {l : List KP} {deep left j : Nat} {high first : Bool} (h : roomPs vs nc deep high first left (l.take j) = none) : roomPs vs nc deep high first left l = none := by
  have h2 := roomPs_append (vs := vs) (nc := nc) (l.take j) (l.drop j) deep high first left
  rw [List.take_append_drop, h] at h2
  exact h2
theorem roomGs_take_none {l : List KG} {deep left j : Nat} {high : Bool} (h : roomGs vs nc deep high left (l.take j) = none) : roomGs vs nc deep high left l = none := by
  have h2 := roomGs_append (vs := vs) (nc := nc) (l.take j) (l.drop j) deep high left
  rw [List.take_append_drop, h] at h2
  exact h2
/-- The guards behind the processes. -/
def behindG (vs : List KVar) (nc : Nat) (deep : Nat) (high : Bool) (s : Option Nat) (g : List KG) : Option Nat := match s with
  | none => none
  | some m => roomGs vs nc deep high m g
section
variable {vs : List KVar} {nc deep : Nat} {high : Bool} {s : Option Nat} {l : List KG}
theorem behindG_nil : behindG vs nc deep high s (l.take 0) = s := by
  cases s with
  | none => rfl
  | some m => simp only [behindG, List.take_zero, roomGs]
theorem behindG_snoc {k r : Nat} {x : KG} (h : l[k]? = some x) (hr : behindG vs nc deep high s (l.take k) = some r) : behindG vs nc deep high s (l.take (k + 1)) = roomG vs nc deep high r x := by
  cases s with
  | none => cases hr
  | some m => exact roomGs_snoc h hr
theorem behindG_take_none {j : Nat} (h : behindG vs nc deep high s (l.take j) = none) : behindG vs nc deep high s l = none := by
  cases s with
  | none => rfl
  | some m => exact roomGs_take_none h
theorem roomG_one {r : Nat} {g : KG} {q : KP} (h : g.body = [q]) : roomG vs nc deep high r g = roomP vs nc deep high r q := by
  rw [roomG_eq, h]
end
end
set_option maxRecDepth 100000 in
set_option maxHeartbeats 4000000 in
theorem rLeft_32 (k : KK) (ok : KOk k) (p : KP) (deep n : Nat) (high : Bool) (B : Nat) (w : World) (hd : deep ≤ 32) (hn : n ≤ 2048) (hk : k.In w B) (hi : p.In w B) (hB : B ≤ w.heap.size) (h : deep = 32) :
    Calls Try.prog 29 #[.agg (innerV k deep high), .agg p.cells, .int .i64 n] w (RetV (.int .i64 (-1)) w) := by
  obtain ⟨W0, hW0⟩ : ∃ W, (w.alloc (.cells (innerV k deep high) 86)).alloc (.cells p.cells 31) = W := ⟨_, rfl⟩
  obtain ⟨l1, l2, l3⟩ := lay2 w (innerV k deep high) p.cells 86 31
  rw [hW0] at l1 l2 l3
  have HW : Hid (∀ w1 : World, Below w.heap.size w w1 → k.In w1 B ∧ p.In w1 B ∧ B ≤ w1.heap.size) := Lib.hid fun w1 hb => ⟨hk.below (hb.mono hB), hi.below (hb.mono hB), Nat.le_trans hB hb.size⟩
  have hone := hi.one.1
  have hlen := hone.2.2.2.2.2
  have hlen2 := hone.2.2.2.2.1
  unfold lenOk at hlen hlen2
  obtain ⟨m, hm⟩ : ∃ m, p.l.length = m := ⟨_, rfl⟩
  obtain ⟨mg, hmg⟩ : ∃ m, p.g.length = m := ⟨_, rfl⟩
  have HM := Lib.hid hm
  have HMG := Lib.hid hmg
  rw [hm] at hlen
  rw [hmg] at hlen2
  have S : Hid (LfAt w W0 (innerV k deep high) p.cells) := Lib.hid ⟨l1, l2, l3⟩
  have HL := Lib.hid (fun w1 => rLooks p w1)
  have HT := Lib.hid (fun (hl : looksB p = true) (w1 : World) (hb : Below w.heap.size w w1) => rTyped k p hl B w1 (HW.out w1 hb).1 ok (HW.out w1 hb).2.1.one (HW.out w1 hb).2.2)
  have y : ((deep : Int) == 32) = true := by simp [h]
  clear h HT HL
  simp only [innerV, KP.cells, KK.flat, hm, hmg] at l2 l3 hW0 S ⊢
  have q0 := l2.cell 0
  have q1 := l2.cell 1
  have q2 := l2.cell 2
  have q3 := l2.cell 3
  have q4 := l2.cell 4
  have q5 := l2.cell 5
  have q6 := l2.cell 6
  have q7 := l2.cell 7
  have q8 := l2.cell 8
  have q9 := l2.cell 9
  have q10 := l2.cell 10
  have q11 := l2.cell 11
  have q12 := l2.cell 12
  simp at q0 q1 q2 q3 q4 q5 q6 q7 q8 q9 q10 q11 q12
  have e0 := l3.cell 0
  have e1 := l3.cell 1
  have e2 := l3.cell 2
  have e3 := l3.cell 3
  have e4 := l3.cell 4
  have e5 := l3.cell 5
  have e6 := l3.cell 6
  have e7 := l3.cell 7
  simp at e0 e1 e2 e3 e4 e5 e6 e7
  clear l1 l2 l3 hk hi hm hmg HW hone
  go_enter Try.func29, Try.ntmps29
  go_wp2_with (first
    | fail)
  go_ret
  exact ⟨rfl, S.out.bel⟩
set_option maxRecDepth 100000 in
set_option maxHeartbeats 4000000 in
theorem rLeft_0 (k : KK) (ok : KOk k) (p : KP) (deep n : Nat) (high : Bool) (B : Nat) (w : World) (hd : deep ≤ 32) (hn : n ≤ 2048) (hk : k.In w B) (hi : p.In w B) (hB : B ≤ w.heap.size) (hd2 : deep < 32) (h : n = 0) :
    Calls Try.prog 29 #[.agg (innerV k deep high), .agg p.cells, .int .i64 n] w (RetV (.int .i64 (-1)) w) := by
  obtain ⟨W0, hW0⟩ : ∃ W, (w.alloc (.cells (innerV k deep high) 86)).alloc (.cells p.cells 31) = W := ⟨_, rfl⟩
  obtain ⟨l1, l2, l3⟩ := lay2 w (innerV k deep high) p.cells 86 31
  rw [hW0] at l1 l2 l3
  have HW : Hid (∀ w1 : World, Below w.heap.size w w1 → k.In w1 B ∧ p.In w1 B ∧ B ≤ w1.heap.size) := Lib.hid fun w1 hb => ⟨hk.below (hb.mono hB), hi.below (hb.mono hB), Nat.le_trans hB hb.size⟩
  have hone := hi.one.1
  have hlen := hone.2.2.2.2.2
  have hlen2 := hone.2.2.2.2.1
  unfold lenOk at hlen hlen2
  obtain ⟨m, hm⟩ : ∃ m, p.l.length = m := ⟨_, rfl⟩
  obtain ⟨mg, hmg⟩ : ∃ m, p.g.length = m := ⟨_, rfl⟩
  have HM := Lib.hid hm
  have HMG := Lib.hid hmg
  rw [hm] at hlen
  rw [hmg] at hlen2
  have S : Hid (LfAt w W0 (innerV k deep high) p.cells) := Lib.hid ⟨l1, l2, l3⟩
  have HL := Lib.hid (fun w1 => rLooks p w1)
  have HT := Lib.hid (fun (hl : looksB p = true) (w1 : World) (hb : Below w.heap.size w w1) => rTyped k p hl B w1 (HW.out w1 hb).1 ok (HW.out w1 hb).2.1.one (HW.out w1 hb).2.2)
  have y : ((deep : Int) == 32) = false := by simp; omega
  have y0 : ((n : Int) == 0) = true := by simp [h]
  clear h HT HL
  simp only [innerV, KP.cells, KK.flat, hm, hmg] at l2 l3 hW0 S ⊢
  have q0 := l2.cell 0
  have q1 := l2.cell 1
  have q2 := l2.cell 2
  have q3 := l2.cell 3
  have q4 := l2.cell 4
  have q5 := l2.cell 5
  have q6 := l2.cell 6
  have q7 := l2.cell 7
  have q8 := l2.cell 8
  have q9 := l2.cell 9
  have q10 := l2.cell 10
  have q11 := l2.cell 11
  have q12 := l2.cell 12
  simp at q0 q1 q2 q3 q4 q5 q6 q7 q8 q9 q10 q11 q12
  have e0 := l3.cell 0
  have e1 := l3.cell 1
  have e2 := l3.cell 2
  have e3 := l3.cell 3
  have e4 := l3.cell 4
  have e5 := l3.cell 5
  have e6 := l3.cell 6
  have e7 := l3.cell 7
  simp at e0 e1 e2 e3 e4 e5 e6 e7
  clear l1 l2 l3 hk hi hm hmg HW hone
  go_enter Try.func29, Try.ntmps29
  go_wp2_with (first
    | fail)
  go_ret
  exact ⟨rfl, S.out.bel⟩
set_option maxRecDepth 100000 in
set_option maxHeartbeats 4000000 in
theorem rLeft_looks (k : KK) (ok : KOk k) (p : KP) (deep n : Nat) (high : Bool) (B : Nat) (w : World) (hd : deep ≤ 32) (hn : n ≤ 2048) (hk : k.In w B) (hi : p.In w B) (hB : B ≤ w.heap.size) (hd2 : deep < 32) (h : n ≠ 0) (hl : looksB p = false) :
    Calls Try.prog 29 #[.agg (innerV k deep high), .agg p.cells, .int .i64 n] w (RetV (.int .i64 (-1)) w) := by
  obtain ⟨W0, hW0⟩ : ∃ W, (w.alloc (.cells (innerV k deep high) 86)).alloc (.cells p.cells 31) = W := ⟨_, rfl⟩
  obtain ⟨l1, l2, l3⟩ := lay2 w (innerV k deep high) p.cells 86 31
  rw [hW0] at l1 l2 l3
  have HW : Hid (∀ w1 : World, Below w.heap.size w w1 → k.In w1 B ∧ p.In w1 B ∧ B ≤ w1.heap.size) := Lib.hid fun w1 hb => ⟨hk.below (hb.mono hB), hi.below (hb.mono hB), Nat.le_trans hB hb.size⟩
  have hone := hi.one.1
  have hlen := hone.2.2.2.2.2
  have hlen2 := hone.2.2.2.2.1
  unfold lenOk at hlen hlen2
  obtain ⟨m, hm⟩ : ∃ m, p.l.length = m := ⟨_, rfl⟩
  obtain ⟨mg, hmg⟩ : ∃ m, p.g.length = m := ⟨_, rfl⟩
  have HM := Lib.hid hm
  have HMG := Lib.hid hmg
  rw [hm] at hlen
  rw [hmg] at hlen2
  have S : Hid (LfAt w W0 (innerV k deep high) p.cells) := Lib.hid ⟨l1, l2, l3⟩
  have HL := Lib.hid (fun w1 => rLooks p w1)
  have HT := Lib.hid (fun (hl : looksB p = true) (w1 : World) (hb : Below w.heap.size w w1) => rTyped k p hl B w1 (HW.out w1 hb).1 ok (HW.out w1 hb).2.1.one (HW.out w1 hb).2.2)
  have y : ((deep : Int) == 32) = false := by simp; omega
  have y0 : ((n : Int) == 0) = false := by simp; omega
  rw [hl] at HL
  clear h HT
  simp only [innerV, KP.cells, KK.flat, hm, hmg] at l2 l3 hW0 S HL ⊢
  have q0 := l2.cell 0
  have q1 := l2.cell 1
  have q2 := l2.cell 2
  have q3 := l2.cell 3
  have q4 := l2.cell 4
  have q5 := l2.cell 5
  have q6 := l2.cell 6
  have q7 := l2.cell 7
  have q8 := l2.cell 8
  have q9 := l2.cell 9
  have q10 := l2.cell 10
  have q11 := l2.cell 11
  have q12 := l2.cell 12
  simp at q0 q1 q2 q3 q4 q5 q6 q7 q8 q9 q10 q11 q12
  have e0 := l3.cell 0
  have e1 := l3.cell 1
  have e2 := l3.cell 2
  have e3 := l3.cell 3
  have e4 := l3.cell 4
  have e5 := l3.cell 5
  have e6 := l3.cell 6
  have e7 := l3.cell 7
  simp at e0 e1 e2 e3 e4 e5 e6 e7
  clear l1 l2 l3 hk hi hm hmg HW hone
  go_enter Try.func29, Try.ntmps29
  go_wp2_with (first
    | (go_at_call 40; (with_reducible refine (HL.out _).mono ?_); rintro e1 w1 ⟨rfl, hb1⟩
       replace S := Lib.hid (S.out.call hb1)
       have x1 := S.out.kb
       have x2 := S.out.pb
       have q0 := x1.cell 0
       have q1 := x1.cell 1
       have q2 := x1.cell 2
       have q3 := x1.cell 3
       have q4 := x1.cell 4
       have q5 := x1.cell 5
       have q6 := x1.cell 6
       have q7 := x1.cell 7
       have q8 := x1.cell 8
       have q9 := x1.cell 9
       have q10 := x1.cell 10
       have q11 := x1.cell 11
       have q12 := x1.cell 12
       simp at q0 q1 q2 q3 q4 q5 q6 q7 q8 q9 q10 q11 q12
       have e0 := x2.cell 0
       have e1 := x2.cell 1
       have e2 := x2.cell 2
       have e3 := x2.cell 3
       have e4 := x2.cell 4
       have e5 := x2.cell 5
       have e6 := x2.cell 6
       have e7 := x2.cell 7
       simp at e0 e1 e2 e3 e4 e5 e6 e7
       clear x1 x2 hb1))
  go_ret
  exact ⟨rfl, S.out.bel⟩
set_option maxRecDepth 100000 in
set_option maxHeartbeats 4000000 in
theorem rLeft_typed (k : KK) (ok : KOk k) (p : KP) (deep n : Nat) (high : Bool) (B : Nat) (w : World) (hd : deep ≤ 32) (hn : n ≤ 2048) (hk : k.In w B) (hi : p.In w B) (hB : B ≤ w.heap.size) (hd2 : deep < 32) (h : n ≠ 0) (hl : looksB p = true) (ht : typedB k.vars k.chans.length p = false) :
    Calls Try.prog 29 #[.agg (innerV k deep high), .agg p.cells, .int .i64 n] w (RetV (.int .i64 (-1)) w) := by
  obtain ⟨W0, hW0⟩ : ∃ W, (w.alloc (.cells (innerV k deep high) 86)).alloc (.cells p.cells 31) = W := ⟨_, rfl⟩
  obtain ⟨l1, l2, l3⟩ := lay2 w (innerV k deep high) p.cells 86 31
  rw [hW0] at l1 l2 l3
  have HW : Hid (∀ w1 : World, Below w.heap.size w w1 → k.In w1 B ∧ p.In w1 B ∧ B ≤ w1.heap.size) := Lib.hid fun w1 hb => ⟨hk.below (hb.mono hB), hi.below (hb.mono hB), Nat.le_trans hB hb.size⟩
  have hone := hi.one.1
  have hlen := hone.2.2.2.2.2
  have hlen2 := hone.2.2.2.2.1
  unfold lenOk at hlen hlen2
  obtain ⟨m, hm⟩ : ∃ m, p.l.length = m := ⟨_, rfl⟩
  obtain ⟨mg, hmg⟩ : ∃ m, p.g.length = m := ⟨_, rfl⟩
  have HM := Lib.hid hm
  have HMG := Lib.hid hmg
  rw [hm] at hlen
  rw [hmg] at hlen2
  have S : Hid (LfAt w W0 (innerV k deep high) p.cells) := Lib.hid ⟨l1, l2, l3⟩
  have HL := Lib.hid (fun w1 => rLooks p w1)
  have HT := Lib.hid (fun (hl : looksB p = true) (w1 : World) (hb : Below w.heap.size w w1) => rTyped k p hl B w1 (HW.out w1 hb).1 ok (HW.out w1 hb).2.1.one (HW.out w1 hb).2.2)
  have y : ((deep : Int) == 32) = false := by simp; omega
  have y0 : ((n : Int) == 0) = false := by simp; omega
  rw [hl] at HL
  have HT := Lib.hid (HT.out hl)
  rw [ht] at HT
  clear h hl ht
  simp only [innerV, KP.cells, KK.flat, hm, hmg] at l2 l3 hW0 S HL HT ⊢
  have q0 := l2.cell 0
  have q1 := l2.cell 1
  have q2 := l2.cell 2
  have q3 := l2.cell 3
  have q4 := l2.cell 4
  have q5 := l2.cell 5
  have q6 := l2.cell 6
  have q7 := l2.cell 7
  have q8 := l2.cell 8
  have q9 := l2.cell 9
  have q10 := l2.cell 10
  have q11 := l2.cell 11
  have q12 := l2.cell 12
  simp at q0 q1 q2 q3 q4 q5 q6 q7 q8 q9 q10 q11 q12
  have e0 := l3.cell 0
  have e1 := l3.cell 1
  have e2 := l3.cell 2
  have e3 := l3.cell 3
  have e4 := l3.cell 4
  have e5 := l3.cell 5
  have e6 := l3.cell 6
  have e7 := l3.cell 7
  simp at e0 e1 e2 e3 e4 e5 e6 e7
  clear l1 l2 l3 hk hi hm hmg HW hone
  go_enter Try.func29, Try.ntmps29
  go_wp2_with (first
    | (go_at_call 40; (with_reducible refine (HL.out _).mono ?_); rintro e1 w1 ⟨rfl, hb1⟩
       replace S := Lib.hid (S.out.call hb1)
       have x1 := S.out.kb
       have x2 := S.out.pb
       have q0 := x1.cell 0
       have q1 := x1.cell 1
       have q2 := x1.cell 2
       have q3 := x1.cell 3
       have q4 := x1.cell 4
       have q5 := x1.cell 5
       have q6 := x1.cell 6
       have q7 := x1.cell 7
       have q8 := x1.cell 8
       have q9 := x1.cell 9
       have q10 := x1.cell 10
       have q11 := x1.cell 11
       have q12 := x1.cell 12
       simp at q0 q1 q2 q3 q4 q5 q6 q7 q8 q9 q10 q11 q12
       have e0 := x2.cell 0
       have e1 := x2.cell 1
       have e2 := x2.cell 2
       have e3 := x2.cell 3
       have e4 := x2.cell 4
       have e5 := x2.cell 5
       have e6 := x2.cell 6
       have e7 := x2.cell 7
       simp at e0 e1 e2 e3 e4 e5 e6 e7
       clear x1 x2 hb1)
    | (go_at_call 41; (with_reducible refine (HT.out _ S.out.bel).mono ?_); rintro e1 w1 ⟨rfl, hb1⟩
       replace S := Lib.hid (S.out.call hb1)
       have x1 := S.out.kb
       have x2 := S.out.pb
       have q0 := x1.cell 0
       have q1 := x1.cell 1
       have q2 := x1.cell 2
       have q3 := x1.cell 3
       have q4 := x1.cell 4
       have q5 := x1.cell 5
       have q6 := x1.cell 6
       have q7 := x1.cell 7
       have q8 := x1.cell 8
       have q9 := x1.cell 9
       have q10 := x1.cell 10
       have q11 := x1.cell 11
       have q12 := x1.cell 12
       simp at q0 q1 q2 q3 q4 q5 q6 q7 q8 q9 q10 q11 q12
       have e0 := x2.cell 0
       have e1 := x2.cell 1
       have e2 := x2.cell 2
       have e3 := x2.cell 3
       have e4 := x2.cell 4
       have e5 := x2.cell 5
       have e6 := x2.cell 6
       have e7 := x2.cell 7
       simp at e0 e1 e2 e3 e4 e5 e6 e7
       clear x1 x2 hb1))
  go_ret
  exact ⟨rfl, S.out.bel⟩
set_option maxRecDepth 100000 in
set_option maxHeartbeats 4000000 in
theorem rLeft_high (k : KK) (ok : KOk k) (p : KP) (deep n : Nat) (high : Bool) (B : Nat) (w : World) (hd : deep ≤ 32) (hn : n ≤ 2048) (hk : k.In w B) (hi : p.In w B) (hB : B ≤ w.heap.size) (hd2 : deep < 32) (h : n ≠ 0) (hl : looksB p = true) (ht : typedB k.vars k.chans.length p = true) (hh : high = true) (h11 : p.kind = 11) :
    Calls Try.prog 29 #[.agg (innerV k deep high), .agg p.cells, .int .i64 n] w (RetV (.int .i64 (-1)) w) := by
  obtain ⟨W0, hW0⟩ : ∃ W, (w.alloc (.cells (innerV k deep high) 86)).alloc (.cells p.cells 31) = W := ⟨_, rfl⟩
  obtain ⟨l1, l2, l3⟩ := lay2 w (innerV k deep high) p.cells 86 31
  rw [hW0] at l1 l2 l3
  have HW : Hid (∀ w1 : World, Below w.heap.size w w1 → k.In w1 B ∧ p.In w1 B ∧ B ≤ w1.heap.size) := Lib.hid fun w1 hb => ⟨hk.below (hb.mono hB), hi.below (hb.mono hB), Nat.le_trans hB hb.size⟩
  have hone := hi.one.1
  have hlen := hone.2.2.2.2.2
  have hlen2 := hone.2.2.2.2.1
  unfold lenOk at hlen hlen2
  obtain ⟨m, hm⟩ : ∃ m, p.l.length = m := ⟨_, rfl⟩
  obtain ⟨mg, hmg⟩ : ∃ m, p.g.length = m := ⟨_, rfl⟩
  have HM := Lib.hid hm
  have HMG := Lib.hid hmg
  rw [hm] at hlen
  rw [hmg] at hlen2
  have S : Hid (LfAt w W0 (innerV k deep high) p.cells) := Lib.hid ⟨l1, l2, l3⟩
  have HL := Lib.hid (fun w1 => rLooks p w1)
  have HT := Lib.hid (fun (hl : looksB p = true) (w1 : World) (hb : Below w.heap.size w w1) => rTyped k p hl B w1 (HW.out w1 hb).1 ok (HW.out w1 hb).2.1.one (HW.out w1 hb).2.2)
  subst hh
  have y : ((deep : Int) == 32) = false := by simp; omega
  have y0 : ((n : Int) == 0) = false := by simp; omega
  have y11 : ((p.kind : Int) == 11) = true := by simp [h11]
  rw [hl] at HL
  have HT := Lib.hid (HT.out hl)
  rw [ht] at HT
  clear h hl ht h11
  simp only [innerV, KP.cells, KK.flat, hm, hmg] at l2 l3 hW0 S HL HT ⊢
  have q0 := l2.cell 0
  have q1 := l2.cell 1
  have q2 := l2.cell 2
  have q3 := l2.cell 3
  have q4 := l2.cell 4
  have q5 := l2.cell 5
  have q6 := l2.cell 6
  have q7 := l2.cell 7
  have q8 := l2.cell 8
  have q9 := l2.cell 9
  have q10 := l2.cell 10
  have q11 := l2.cell 11
  have q12 := l2.cell 12
  simp at q0 q1 q2 q3 q4 q5 q6 q7 q8 q9 q10 q11 q12
  have e0 := l3.cell 0
  have e1 := l3.cell 1
  have e2 := l3.cell 2
  have e3 := l3.cell 3
  have e4 := l3.cell 4
  have e5 := l3.cell 5
  have e6 := l3.cell 6
  have e7 := l3.cell 7
  simp at e0 e1 e2 e3 e4 e5 e6 e7
  clear l1 l2 l3 hk hi hm hmg HW hone
  go_enter Try.func29, Try.ntmps29
  go_wp2_with (first
    | (go_at_call 40; (with_reducible refine (HL.out _).mono ?_); rintro e1 w1 ⟨rfl, hb1⟩
       replace S := Lib.hid (S.out.call hb1)
       have x1 := S.out.kb
       have x2 := S.out.pb
       have q0 := x1.cell 0
       have q1 := x1.cell 1
       have q2 := x1.cell 2
       have q3 := x1.cell 3
       have q4 := x1.cell 4
       have q5 := x1.cell 5
       have q6 := x1.cell 6
       have q7 := x1.cell 7
       have q8 := x1.cell 8
       have q9 := x1.cell 9
       have q10 := x1.cell 10
       have q11 := x1.cell 11
       have q12 := x1.cell 12
       simp at q0 q1 q2 q3 q4 q5 q6 q7 q8 q9 q10 q11 q12
       have e0 := x2.cell 0
       have e1 := x2.cell 1
       have e2 := x2.cell 2
       have e3 := x2.cell 3
       have e4 := x2.cell 4
       have e5 := x2.cell 5
       have e6 := x2.cell 6
       have e7 := x2.cell 7
       simp at e0 e1 e2 e3 e4 e5 e6 e7
       clear x1 x2 hb1)
    | (go_at_call 41; (with_reducible refine (HT.out _ S.out.bel).mono ?_); rintro e1 w1 ⟨rfl, hb1⟩
       replace S := Lib.hid (S.out.call hb1)
       have x1 := S.out.kb
       have x2 := S.out.pb
       have q0 := x1.cell 0
       have q1 := x1.cell 1
       have q2 := x1.cell 2
       have q3 := x1.cell 3
       have q4 := x1.cell 4
       have q5 := x1.cell 5
       have q6 := x1.cell 6
       have q7 := x1.cell 7
       have q8 := x1.cell 8
       have q9 := x1.cell 9
       have q10 := x1.cell 10
       have q11 := x1.cell 11
       have q12 := x1.cell 12
       simp at q0 q1 q2 q3 q4 q5 q6 q7 q8 q9 q10 q11 q12
       have e0 := x2.cell 0
       have e1 := x2.cell 1
       have e2 := x2.cell 2
       have e3 := x2.cell 3
       have e4 := x2.cell 4
       have e5 := x2.cell 5
       have e6 := x2.cell 6
       have e7 := x2.cell 7
       simp at e0 e1 e2 e3 e4 e5 e6 e7
       clear x1 x2 hb1))
  go_ret
  exact ⟨rfl, S.out.bel⟩
end Go.Proofs.Ytekamebpjjkifaa
