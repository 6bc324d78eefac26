/- How the Case of chapter 25 reads when it comes in. -/
import Derived.Test.YtbefmlioampgcaaDoorHFC
import Derived.Test.YtbefmlioampgcaaDoorHK1
import Derived.Test.YtbefmlioampgcaaDoorHDB
namespace Go.Proofs.YtbefmlioampgcaaDoor
open Go.ChangeShapes Go.WideShapes Go.ChangeAt Go.RowKit

section
variable {H : Type} {enc : TypeId × Value → H} {w : World} {base : Nat} {sp : Nat → Bool} {held : Bool} {fuel : Nat} {cs : List Value} {y : DataW H × List MemPlace}
theorem fsFr : Tryd.prog.underlying 106 = some (.struct #[⟨ "Parent", 3, 0, false, "", "", 0⟩, ⟨ "Down", 3, 1, false, "", "", 8⟩, ⟨ "Above", 3, 2, false, "", "", 16⟩, ⟨ "Below", 3, 3, false, "", "", 24⟩, ⟨ "Temp", 3, 4, false, "", "", 32⟩]) := by kernel_rfl
theorem fsSp : Tryd.prog.underlying 41 = some (.struct #[⟨ "Frames", 38, 0, false, "", "", 0⟩, ⟨ "VarAt", 39, 1, false, "", "", 24⟩, ⟨ "VarIn", 39, 2, false, "", "", 48⟩, ⟨ "ChanAt", 39, 3, false, "", "", 72⟩, ⟨ "ChanIn", 39, 4, false, "", "", 96⟩]) := by kernel_rfl
theorem fsCase : Tryd.prog.underlying 43 = some (.struct #[⟨ "E", 36, 0, false, "", "", 0⟩, ⟨ "Vars", 37, 6, false, "", "", 40⟩, ⟨ "S", 41, 7, false, "", "", 64⟩, ⟨ "Frame", 3, 12, false, "", "", 184⟩, ⟨ "Temp", 3, 13, false, "", "", 192⟩, ⟨ "Label", 9, 14, false, "", "", 200⟩]) := by kernel_rfl
theorem cS1 : Tryd.prog.cellsOf 106 = 5 := by kernel_rfl
theorem cS2 : Tryd.prog.cellsOf 38 = 1 := by kernel_rfl
theorem cS3 : Tryd.prog.cellsOf 41 = 5 := by kernel_rfl
theorem cS4 : Tryd.prog.cellsOf 43 = 15 := by kernel_rfl
theorem cS5 : Tryd.prog.cellsOf 9 = 1 := by kernel_rfl
theorem list15 {α : Type} {l : List α} (h : l.length = 15) : ∃ a b c d e f g i j k m n o p q, l = [a, b, c, d, e, f, g, i, j, k, m, n, o, p, q] := by
  match l, h with
  | [a, b, c, d, e, f, g, i, j, k, m, n, o, p, q], _ => exact ⟨a, b, c, d, e, f, g, i, j, k, m, n, o, p, q, rfl⟩
set_option maxRecDepth 100000 in
theorem open_frame (h : DataW.trod enc Tryd.prog w base sp held fuel 106 cs = some y) : ∃ x : FrL, cs = x.cells ∧ x.Ok := by
  obtain ⟨f, parts, hf, hl, hy, hx⟩ := trod_struct_lt fsFr h
  rw [cS1] at hl
  match cs, hl with
  | [v0, v1, v2, v3, v4], _ =>
    obtain ⟨z0, h0, -⟩ := hx 0 _ rfl
    obtain ⟨z1, h1, -⟩ := hx 1 _ rfl
    obtain ⟨z2, h2, -⟩ := hx 2 _ rfl
    obtain ⟨z3, h3, -⟩ := hx 3 _ rfl
    obtain ⟨z4, h4, -⟩ := hx 4 _ rfl
    simp only [cK5] at h0 h1 h2 h3 h4
    simp only [List.drop_succ_cons, List.drop_zero, List.take_succ_cons, List.take_zero] at h0 h1 h2 h3 h4
    obtain ⟨a0, e0, w0⟩ := trod_int_inv Tryd.underlying3 h0
    obtain ⟨a1, e1, w1⟩ := trod_int_inv Tryd.underlying3 h1
    obtain ⟨a2, e2, w2⟩ := trod_int_inv Tryd.underlying3 h2
    obtain ⟨a3, e3, w3⟩ := trod_int_inv Tryd.underlying3 h3
    obtain ⟨a4, e4, w4⟩ := trod_int_inv Tryd.underlying3 h4
    injection e0 with e0; injection e1 with e1; injection e2 with e2; injection e3 with e3; injection e4 with e4
    subst e0 e1 e2 e3 e4
    exact ⟨⟨a0, a1, a2, a3, a4⟩, rfl, i64_wf w0, i64_wf w1, i64_wf w2, i64_wf w3, i64_wf w4⟩
theorem open_ints (h : DataW.trod enc Tryd.prog w base sp held fuel 39 cs = some y) (hw : Light Tryd.prog 39 y.1) :
    ∃ (A : Option Addr) (c : Nat) (l : List Int), cs = [.slice A l.length c] ∧ intsIn w w.heap.size A l := by
  obtain ⟨A, c, l, h1, h2, h3, h4⟩ := open_row (α := Int) (R := i64ok) (cells := fun (x : Int) => [Value.int .i64 x]) (size := 1) cK5 (by decide) (fun x => rfl) Tryd.underlying39 (of_decide_eq_true (by kernel_rfl)) (fun f c z _ h1 h2 => by
    obtain ⟨a, rfl, wa⟩ := trod_int_inv Tryd.underlying3 h1
    exact ⟨a, rfl, i64_wf wa⟩) h hw
  refine ⟨A, c, l, h1, h2, ?_, h4⟩
  have e : ∀ l : List Int, l.flatMap (fun (x : Int) => [Value.int .i64 x]) = intsV l := by
    intro l
    induction l with
    | nil => rfl
    | cons a r ih => rw [List.flatMap_cons, ih]; rfl
  rwa [e] at h3
set_option maxRecDepth 100000 in
theorem open_space (h : DataW.trod enc Tryd.prog w base sp held fuel 41 cs = some y) (hw : Light Tryd.prog 41 y.1) : ∃ s : SpL, cs = s.cells.toList ∧ s.In w w.heap.size := by
  obtain ⟨f, parts, hf, hl, hy, hx⟩ := trod_struct_lt fsSp h
  rw [hy] at hw
  rw [cS3] at hl
  match cs, hl with
  | [v0, v1, v2, v3, v4], _ =>
    obtain ⟨z0, h0, q0⟩ := hx 0 _ rfl
    obtain ⟨z1, h1, q1⟩ := hx 1 _ rfl
    obtain ⟨z2, h2, q2⟩ := hx 2 _ rfl
    obtain ⟨z3, h3, q3⟩ := hx 3 _ rfl
    obtain ⟨z4, h4, q4⟩ := hx 4 _ rfl
    have l0 := hw.part fsSp (j := 0) rfl q0
    have l1 := hw.part fsSp (j := 1) rfl q1
    have l2 := hw.part fsSp (j := 2) rfl q2
    have l3 := hw.part fsSp (j := 3) rfl q3
    have l4 := hw.part fsSp (j := 4) rfl q4
    simp only [cS2, cK19] at h0 h1 h2 h3 h4 l0 l1 l2 l3 l4
    simp only [List.drop_succ_cons, List.drop_zero, List.take_succ_cons, List.take_zero] at h0 h1 h2 h3 h4
    obtain ⟨A0, c0, x0, e0, n0, r0, i0⟩ := open_row (α := FrL) (R := FrL.Ok) (cells := FrL.cells) (size := 5) cS1 (by decide) FrL.cells_len Tryd.underlying38 (of_decide_eq_true (by kernel_rfl)) (fun f c z _ h1 h2 => open_frame h1) h0 l0
    obtain ⟨A1, c1, x1, e1, i1⟩ := open_ints h1 l1
    obtain ⟨A2, c2, x2, e2, i2⟩ := open_ints h2 l2
    obtain ⟨A3, c3, x3, e3, i3⟩ := open_ints h3 l3
    obtain ⟨A4, c4, x4, e4, i4⟩ := open_ints h4 l4
    injection e0 with e0; injection e1 with e1; injection e2 with e2; injection e3 with e3; injection e4 with e4
    subst e0 e1 e2 e3 e4
    exact ⟨{ Af := A0, cf := c0, fr := x0, A1 := A1, c1 := c1, vat := x1, A2 := A2, c2 := c2, vin := x2, A3 := A3, c3 := c3, cat := x3, A4 := A4, c4 := c4, cin := x4 }, rfl, ⟨n0, r0, i0⟩, i1, i2, i3, i4⟩
set_option maxRecDepth 100000 in
theorem open_case (h : DataW.trod enc Tryd.prog w base sp held fuel 43 cs = some y) (hw : Light Tryd.prog 43 y.1) :
    ∃ (g : EmL) (e : KE) (temp : Int), cs = (caseC g e temp).toList ∧ e.In w w.heap.size ∧ EnvIn0 g w w.heap.size ∧ i64ok temp := by
  obtain ⟨f, parts, hf, hl, hy, hx⟩ := trod_struct_lt fsCase h
  rw [hy] at hw
  rw [cS4] at hl
  obtain ⟨v0, v1, v2, v3, v4, v5, v6, v7, v8, v9, v10, v11, v12, v13, v14, rfl⟩ := list15 hl
  obtain ⟨z0, h0, q0⟩ := hx 0 _ rfl
  obtain ⟨z1, h1, q1⟩ := hx 1 _ rfl
  obtain ⟨z2, h2, q2⟩ := hx 2 _ rfl
  obtain ⟨z3, h3, q3⟩ := hx 3 _ rfl
  obtain ⟨z4, h4, q4⟩ := hx 4 _ rfl
  obtain ⟨z5, h5, q5⟩ := hx 5 _ rfl
  have l0 := hw.part fsCase (j := 0) rfl q0
  have l1 := hw.part fsCase (j := 1) rfl q1
  have l2 := hw.part fsCase (j := 2) rfl q2
  have l5 := hw.part fsCase (j := 5) rfl q5
  simp only [cK7, cK17, cS3, cK5, cS5] at h0 h1 h2 h3 h4 h5 l0 l1 l2 l5
  simp only [List.drop_succ_cons, List.drop_zero, List.take_succ_cons, List.take_zero] at h0 h1 h2 h3 h4 h5
  obtain ⟨e, e0, i0⟩ := open_ke _ _ _ h0 l0
  obtain ⟨A1, c1, x1, e1, n1, r1, i1⟩ := open_row (α := KVar) (R := fun x => x.kind ≤ 255 ∧ i64ok x.dim) (cells := fun x => x.cells.toList) (size := 2) cK16 (by decide) (fun x => rfl) Tryd.underlying37 (of_decide_eq_true (by kernel_rfl)) (fun f c z _ h1 h2 => open_var h1) h1 l1
  obtain ⟨s, e2, i2⟩ := open_space h2 l2
  obtain ⟨a3, e3, w3⟩ := trod_int_inv Tryd.underlying3 h3
  obtain ⟨a4, e4, w4⟩ := trod_int_inv Tryd.underlying3 h4
  obtain ⟨s5, e5, hs5⟩ := trod_string_inv2 Tryd.underlying9 h5
  rw [hs5] at l5
  injection e1 with e1; injection e3 with e3; injection e4 with e4; injection e5 with e5
  subst e1 e3 e4 e5
  refine ⟨{ Av := A1, cv := c1, vars := x1, s := s, frame := a3, label := s5.data.toList }, e, a4, ?_, i0, ⟨i2, ⟨n1, r1, i1⟩, i64_wf w3, l5.str⟩, i64_wf w4⟩
  have e0' : [v0, v1, v2, v3, v4, v5] = [Value.int .u8 e.kind, .int .u8 e.oper, .int .u8 e.tk, .int .i32 e.n, .int .i64 e.v, .slice e.A e.l.length e.c] := e0
  have e2' : [v7, v8, v9, v10, v11] = [Value.slice s.Af s.fr.length s.cf, .slice s.A1 s.vat.length s.c1, .slice s.A2 s.vin.length s.c2, .slice s.A3 s.cat.length s.c3, .slice s.A4 s.cin.length s.c4] := e2
  simp only [List.cons.injEq, and_true] at e0' e2'
  obtain ⟨rfl, rfl, rfl, rfl, rfl, rfl⟩ := e0'
  obtain ⟨rfl, rfl, rfl, rfl, rfl⟩ := e2'
  rfl
end
end Go.Proofs.YtbefmlioampgcaaDoor
