/- Texts that belong together, joined: what each one holds is told ahead of it. -/
import Derived.Test.YtbefmlioampgcaaGreatDoorHK6
import Derived.Test.YtbefmlioampgcaaGreatDoorHK1
import Derived.Test.YtbefmlioampgcaaGreatDoorHK8
import Derived.Test.YtbefmlioampgcaaGreatDoorHHS
import Derived.Test.YtbefmlioampgcaaGreatDoorHK11
import Derived.Test.YtbefmlioampgcaaGreatDoorHK9
import Derived.Lib.LaidTab
import Derived.Stop.LaidErr
import Derived.LaidMore
import Derived.Lay
import Derived.ProofKit
import Derived.OpenShut
import Derived.DataShut
import Derived.Test.YtbefmlioampgcaaGreatDoorHDB
import Derived.Test.YtbefmlioampgcaaGreatDoorHK30
set_option linter.unusedVariables false
set_option linter.unusedSimpArgs false
/- What the rows' condition on package-level variables gives the walks of chapter 25, and how its arguments read. -/
namespace Go.Proofs.YtbefmlioampgcaaGreatDoor
open Go.ChangeShapes Go.WideShapes Go.ChangeAt Go.RowKit

theorem i32_bounds {a : Int} (h : (Lit.int .i32 a).wf = true) : -2147483648 ≤ a ∧ a ≤ 2147483647 := by
  have := (Lit.wf_int_iff _ _).1 h
  simp [IntKind.min, IntKind.max, IntKind.signed, IntKind.bits] at this
  omega
theorem Tryz.own : ownKnob Tryz.prog.godebug = none := by kernel_rfl
theorem Tryz.laidOut : laidOutB Tryz.prog = true := by kernel_rfl
abbrev laidL : List (String × DataW Unit) := Rows.genexpValueRow.laid
theorem laid_met (os : Os) (args : Array Value) : laidMetH Tryz.prog laidL ((World.laidAll Tryz.prog os laidL).forCall (fun _ _ => 0) ⟨#[], args, []⟩).memory := by
  rw [MakeChecks.laidMetH_plain _ _ _ (by kernel_rfl)]
  exact laidMet_laidAll _ (by kernel_rfl) (by kernel_rfl)
theorem var_below {w w' : World} {B : Nat} {n : String} {cs : Array Value} {g : Nat} (hg : Tryz.prog.globalNamed n = some g) (h : w.var? Tryz.prog n = some cs) (hb : Below B w w') (hB : g < B) : w'.var? Tryz.prog n = some cs := by
  unfold World.var? at h ⊢
  simp only [hg, Option.bind_some] at h ⊢
  rw [hb.block g hB]
  exact h
theorem var_lt {w : World} {n : String} {cs : Array Value} {g : Nat} (hg : Tryz.prog.globalNamed n = some g) (h : w.var? Tryz.prog n = some cs) : g < w.heap.size := by
  unfold World.var? at h
  simp only [hg, Option.bind_some] at h
  rcases Nat.lt_or_ge g w.heap.size with h' | h'
  · exact h'
  · simp [Array.getElem?_eq_none h'] at h
theorem gP : Tryz.prog.globalNamed "internal/strconv.uint64pow10" = some 3 := by kernel_rfl
theorem gA : Tryz.prog.globalNamed "strings.asciiSpace" = some 2 := by kernel_rfl
theorem gF : Tryz.prog.globalNamed "transputer/instr.functions" = some 1 := by kernel_rfl
theorem gQ : Tryz.prog.globalNamed "transputer/depth.quiet" = some 0 := by kernel_rfl
/-- An array of strings that reads as the list holds just these. -/
theorem cells_of_strs {H : Type} {enc : TypeId × Value → H} {P : Program} {w : World} {base : Nat} {sp : Nat → Bool} {held : Bool} {fuel : Nat} {t e : TypeId} {n : Nat} {cs : List Value} {zs : List (List UInt8)} {p : List MemPlace}
    (ht : P.underlying t = some (.array n e)) (he : P.underlying e = some .string) (hce : P.cellsOf e = 1) (hct : P.cellsOf t = n)
    (h : DataW.trod enc P w base sp held fuel t cs = some (.agg (zs.map fun z => .lit (.string z)), p)) : cs = zs.map fun z => Value.string (strB z) := by
  cases fuel with
  | zero => simp [DataW.trod] at h
  | succ fuel =>
    simp only [DataW.trod, ht, hce, hct, Nat.mul_one] at h
    split at h
    · rename_i hl
      obtain ⟨xs, hm, hx⟩ := Option.map_eq_some_iff.1 h
      have hxs : xs.map (·.1) = zs.map fun z => (DataW.lit (.string z) : DataW H) := by
        have := congrArg Prod.fst hx
        simpa using this
      have hxl : xs.length = n := by simpa using Lib.mapM_length hm
      have hzl : zs.length = n := by
        have := congrArg List.length hxs
        simp at this
        omega
      apply List.ext_getElem?
      intro i
      by_cases hi : i < n
      · obtain ⟨b, hb, hf⟩ := Lib.mapM_at hm i i (by simp [hi])
        obtain ⟨z, hc, rfl, _⟩ := DataW.trod_string he hf
        have h1 : cs[i]? = some (.string z) := by
          have := congrArg (·[0]?) hc
          simpa [List.getElem?_take, List.getElem?_drop] using this
        have h2 : (xs.map (·.1))[i]? = some (DataW.lit (.string z.data.toList) : DataW H) := by simp [hb]
        rw [hxs] at h2
        simp only [List.getElem?_map, Option.map_eq_some_iff, DataW.lit.injEq, Lit.string.injEq] at h2
        obtain ⟨z', hz', rfl⟩ := h2
        simp [h1, hz', strB]
      · rw [List.getElem?_eq_none (by omega), List.getElem?_eq_none (by simp; omega)]
    · cases h
/-- An array of truths that reads as the list holds just these. -/
theorem cells_of_bools {H : Type} {enc : TypeId × Value → H} {P : Program} {w : World} {base : Nat} {sp : Nat → Bool} {held : Bool} {fuel : Nat} {t e : TypeId} {n : Nat} {cs : List Value} {zs : List Bool} {p : List MemPlace}
    (ht : P.underlying t = some (.array n e)) (he : P.underlying e = some .bool) (hce : P.cellsOf e = 1) (hct : P.cellsOf t = n)
    (h : DataW.trod enc P w base sp held fuel t cs = some (.agg (zs.map fun z => .lit (.bool z)), p)) : cs = zs.map fun z => Value.bool z := by
  cases fuel with
  | zero => simp [DataW.trod] at h
  | succ fuel =>
    simp only [DataW.trod, ht, hce, hct, Nat.mul_one] at h
    split at h
    · rename_i hl
      obtain ⟨xs, hm, hx⟩ := Option.map_eq_some_iff.1 h
      have hxs : xs.map (·.1) = zs.map fun z => (DataW.lit (.bool z) : DataW H) := by
        have := congrArg Prod.fst hx
        simpa using this
      have hxl : xs.length = n := by simpa using Lib.mapM_length hm
      have hzl : zs.length = n := by
        have := congrArg List.length hxs
        simp at this
        omega
      apply List.ext_getElem?
      intro i
      by_cases hi : i < n
      · obtain ⟨b, hb, hf⟩ := Lib.mapM_at hm i i (by simp [hi])
        obtain ⟨z, hc, rfl⟩ := DataW.trod_bool he hf
        have h1 : cs[i]? = some (.bool z) := by
          have := congrArg (·[0]?) hc
          simpa [List.getElem?_take, List.getElem?_drop] using this
        have h2 : (xs.map (·.1))[i]? = some (DataW.lit (.bool z) : DataW H) := by simp [hb]
        rw [hxs] at h2
        simp only [List.getElem?_map, Option.map_eq_some_iff, DataW.lit.injEq, Lit.bool.injEq] at h2
        obtain ⟨z', hz', rfl⟩ := h2
        simp [h1, hz']
      · rw [List.getElem?_eq_none (by omega), List.getElem?_eq_none (by simp; omega)]
    · cases h
theorem fn_data : (Rows.laid_transputer_instr_functions : DataW Unit) = .agg (fnL.map fun z => .lit (.string z)) := by
  simp only [Rows.laid_transputer_instr_functions, fnL, List.map_cons, List.map_nil]
theorem fns_of_head {W : World} {rest : List (String × DataW Unit)} (h : laidMet Tryz.prog (("transputer/instr.functions", Rows.laid_transputer_instr_functions) :: rest) W) : W.var? Tryz.prog "transputer/instr.functions" = some fnV := by
  rw [fn_data] at h
  obtain ⟨ps, ⟨g', t', cs, fuel, p, q, hg', ht', hvar, hd, _, _⟩, _⟩ := h
  obtain rfl := Option.some.inj (gF.symm.trans hg')
  have hty : (Tryz.prog.globals[1]?).map (·.type) = some 139 := by kernel_rfl
  obtain rfl := Option.some.inj (hty.symm.trans ht')
  have hc := cells_of_strs Tryz.underlying139 Tryz.underlying9 (by kernel_rfl) (by kernel_rfl) hd
  rw [hvar]
  congr 1
  apply Array.toList_inj.1
  rw [hc]
  rfl
theorem fnsAt_of {w : World} (h : w.var? Tryz.prog "transputer/instr.functions" = some fnV) : FnsAt w := by
  unfold World.var? at h
  simp only [gF, Option.bind_some] at h
  split at h
  · rename_i o cs t f heq
    refine ⟨t, f, ?_⟩
    obtain rfl := Option.some.inj h
    exact heq
  · cases h
def quietZ : List Bool := (List.range 27).map quietB
theorem quiet_data : (Rows.laid_transputer_depth_quiet : DataW Unit) = .agg (quietZ.map fun z => .lit (.bool z)) := by kernel_rfl
theorem quiet_of_head {W : World} {rest : List (String × DataW Unit)} (h : laidMet Tryz.prog (("transputer/depth.quiet", Rows.laid_transputer_depth_quiet) :: rest) W) : W.var? Tryz.prog "transputer/depth.quiet" = some quietV := by
  rw [quiet_data] at h
  obtain ⟨ps, ⟨g', t', cs, fuel, p, q, hg', ht', hvar, hd, _, _⟩, _⟩ := h
  obtain rfl := Option.some.inj (gQ.symm.trans hg')
  have hty : (Tryz.prog.globals[0]?).map (·.type) = some 120 := by kernel_rfl
  obtain rfl := Option.some.inj (hty.symm.trans ht')
  have hc := cells_of_bools Tryz.underlying120 Tryz.underlying4 (by kernel_rfl) (by kernel_rfl) hd
  rw [hvar]
  congr 1
  apply Array.toList_inj.1
  rw [hc]
  simp [quietV, quietZ]
theorem quietAt_of {w : World} (h : w.var? Tryz.prog "transputer/depth.quiet" = some quietV) : QuietAt w := by
  unfold World.var? at h
  simp only [gQ, Option.bind_some] at h
  split at h
  · rename_i o cs t f heq
    refine ⟨t, f, ?_⟩
    obtain rfl := Option.some.inj h
    exact heq
  · cases h
set_option maxRecDepth 100000 in
theorem laidG_of {W : World} (h : laidMetH Tryz.prog laidL W) : LaidG W.heap.size W := by
  rw [MakeChecks.laidMetH_plain _ _ _ (by kernel_rfl)] at h
  have h2 := h.tail.tail
  have h3 := h2.tail
  have h6 := h3.tail.tail
  have h7 := h6.tail
  have hT : Lib.TabIs Tryz.prog W "internal/strconv.uint64pow10" .u64 Lib.pow10Tab :=
    Lib.tabIs_of_head gP (t := 159) (e := 128) (n := 20) (by kernel_rfl) Tryz.underlying159 Tryz.underlying128 (by kernel_rfl) (by kernel_rfl) h2
  have hA : Lib.TabIs Tryz.prog W "strings.asciiSpace" .u8 Lib.asciiSpaceTab :=
    Lib.tabIs_of_head gA (t := 154) (e := 5) (n := 256) (by kernel_rfl) Tryz.underlying154 Tryz.underlying5 (by kernel_rfl) (by kernel_rfl) h6
  have hF := fns_of_head h7
  have hq := quiet_of_head h3
  exact ⟨⟨fun w' hb => var_below gA hA hb (var_lt gA hA), fun w' hb => fnsAt_of (var_below gF hF hb (var_lt gF hF))⟩,
    fun w' hb => var_below gP hT hb (var_lt gP hT), var_lt gQ hq, quietAt_of hq⟩
instance : Inhabited LineL := ⟨⟨[], 0, 0, [], []⟩⟩
section
variable {H : Type} {enc : TypeId × Value → H} {w : World} {base : Nat} {sp : Nat → Bool} {held : Bool} {fuel : Nat} {cs : List Value} {y : DataW H × List MemPlace}
end
end Go.Proofs.YtbefmlioampgcaaGreatDoor

/- How the Case of chapter 25 reads when it comes in. -/
namespace Go.Proofs.YtbefmlioampgcaaGreatDoor
open Go.ChangeShapes Go.WideShapes Go.ChangeAt Go.RowKit

section
variable {H : Type} {enc : TypeId × Value → H} {w : World} {base : Nat} {sp : Nat → Bool} {held : Bool} {fuel : Nat} {cs : List Value} {y : DataW H × List MemPlace}
theorem fsFr : Tryz.prog.underlying 88 = some (.struct #[⟨ "Parent", 3, 0, false, "", "", 0⟩, ⟨ "Down", 3, 1, false, "", "", 8⟩, ⟨ "Above", 3, 2, false, "", "", 16⟩, ⟨ "Below", 3, 3, false, "", "", 24⟩, ⟨ "Temp", 3, 4, false, "", "", 32⟩]) := by kernel_rfl
theorem fsSp : Tryz.prog.underlying 32 = some (.struct #[⟨ "Frames", 29, 0, false, "", "", 0⟩, ⟨ "VarAt", 30, 1, false, "", "", 24⟩, ⟨ "VarIn", 30, 2, false, "", "", 48⟩, ⟨ "ChanAt", 30, 3, false, "", "", 72⟩, ⟨ "ChanIn", 30, 4, false, "", "", 96⟩]) := by kernel_rfl
theorem fsCase : Tryz.prog.underlying 34 = some (.struct #[⟨ "E", 27, 0, false, "", "", 0⟩, ⟨ "Vars", 28, 6, false, "", "", 40⟩, ⟨ "S", 32, 7, false, "", "", 64⟩, ⟨ "Frame", 3, 12, false, "", "", 184⟩, ⟨ "Temp", 3, 13, false, "", "", 192⟩, ⟨ "Label", 9, 14, false, "", "", 200⟩]) := by kernel_rfl
theorem cS1 : Tryz.prog.cellsOf 88 = 5 := by kernel_rfl
theorem cS2 : Tryz.prog.cellsOf 29 = 1 := by kernel_rfl
theorem cS3 : Tryz.prog.cellsOf 32 = 5 := by kernel_rfl
theorem cS4 : Tryz.prog.cellsOf 34 = 15 := by kernel_rfl
theorem cS5 : Tryz.prog.cellsOf 9 = 1 := by kernel_rfl
theorem list15 {α : Type} {l : List α} (h : l.length = 15) : ∃ a b c d e f g i j k m n o p q, l = [a, b, c, d, e, f, g, i, j, k, m, n, o, p, q] := by
  match l, h with
  | [a, b, c, d, e, f, g, i, j, k, m, n, o, p, q], _ => exact ⟨a, b, c, d, e, f, g, i, j, k, m, n, o, p, q, rfl⟩
set_option maxRecDepth 100000 in
theorem open_frame (h : DataW.trod enc Tryz.prog w base sp held fuel 88 cs = some y) : ∃ x : FrL, cs = x.cells ∧ x.Ok := by
  obtain ⟨f, parts, hf, hl, hy, hx⟩ := trod_struct_lt fsFr h
  rw [cS1] at hl
  match cs, hl with
  | [v0, v1, v2, v3, v4], _ =>
    obtain ⟨z0, h0, -⟩ := hx 0 _ rfl
    obtain ⟨z1, h1, -⟩ := hx 1 _ rfl
    obtain ⟨z2, h2, -⟩ := hx 2 _ rfl
    obtain ⟨z3, h3, -⟩ := hx 3 _ rfl
    obtain ⟨z4, h4, -⟩ := hx 4 _ rfl
    simp only [cK5] at h0 h1 h2 h3 h4
    simp only [List.drop_succ_cons, List.drop_zero, List.take_succ_cons, List.take_zero] at h0 h1 h2 h3 h4
    obtain ⟨a0, e0, w0⟩ := trod_int_inv Tryz.underlying3 h0
    obtain ⟨a1, e1, w1⟩ := trod_int_inv Tryz.underlying3 h1
    obtain ⟨a2, e2, w2⟩ := trod_int_inv Tryz.underlying3 h2
    obtain ⟨a3, e3, w3⟩ := trod_int_inv Tryz.underlying3 h3
    obtain ⟨a4, e4, w4⟩ := trod_int_inv Tryz.underlying3 h4
    injection e0 with e0; injection e1 with e1; injection e2 with e2; injection e3 with e3; injection e4 with e4
    subst e0 e1 e2 e3 e4
    exact ⟨⟨a0, a1, a2, a3, a4⟩, rfl, i64_wf w0, i64_wf w1, i64_wf w2, i64_wf w3, i64_wf w4⟩
theorem open_ints (h : DataW.trod enc Tryz.prog w base sp held fuel 30 cs = some y) (hw : Light Tryz.prog 30 y.1) :
    ∃ (A : Option Addr) (c : Nat) (l : List Int), cs = [.slice A l.length c] ∧ intsIn w w.heap.size A l := by
  obtain ⟨A, c, l, h1, h2, h3, h4⟩ := open_row (α := Int) (R := i64ok) (cells := fun (x : Int) => [Value.int .i64 x]) (size := 1) cK5 (by decide) (fun x => rfl) Tryz.underlying30 (of_decide_eq_true (by kernel_rfl)) (fun f c z _ h1 h2 => by
    obtain ⟨a, rfl, wa⟩ := trod_int_inv Tryz.underlying3 h1
    exact ⟨a, rfl, i64_wf wa⟩) h hw
  refine ⟨A, c, l, h1, h2, ?_, h4⟩
  have e : ∀ l : List Int, l.flatMap (fun (x : Int) => [Value.int .i64 x]) = intsV l := by
    intro l
    induction l with
    | nil => rfl
    | cons a r ih => rw [List.flatMap_cons, ih]; rfl
  rwa [e] at h3
set_option maxRecDepth 100000 in
theorem open_space (h : DataW.trod enc Tryz.prog w base sp held fuel 32 cs = some y) (hw : Light Tryz.prog 32 y.1) : ∃ s : SpL, cs = s.cells.toList ∧ s.In w w.heap.size := by
  obtain ⟨f, parts, hf, hl, hy, hx⟩ := trod_struct_lt fsSp h
  rw [hy] at hw
  rw [cS3] at hl
  match cs, hl with
  | [v0, v1, v2, v3, v4], _ =>
    obtain ⟨z0, h0, q0⟩ := hx 0 _ rfl
    obtain ⟨z1, h1, q1⟩ := hx 1 _ rfl
    obtain ⟨z2, h2, q2⟩ := hx 2 _ rfl
    obtain ⟨z3, h3, q3⟩ := hx 3 _ rfl
    obtain ⟨z4, h4, q4⟩ := hx 4 _ rfl
    have l0 := hw.part fsSp (j := 0) rfl q0
    have l1 := hw.part fsSp (j := 1) rfl q1
    have l2 := hw.part fsSp (j := 2) rfl q2
    have l3 := hw.part fsSp (j := 3) rfl q3
    have l4 := hw.part fsSp (j := 4) rfl q4
    simp only [cS2, cK19] at h0 h1 h2 h3 h4 l0 l1 l2 l3 l4
    simp only [List.drop_succ_cons, List.drop_zero, List.take_succ_cons, List.take_zero] at h0 h1 h2 h3 h4
    obtain ⟨A0, c0, x0, e0, n0, r0, i0⟩ := open_row (α := FrL) (R := FrL.Ok) (cells := FrL.cells) (size := 5) cS1 (by decide) FrL.cells_len Tryz.underlying29 (of_decide_eq_true (by kernel_rfl)) (fun f c z _ h1 h2 => open_frame h1) h0 l0
    obtain ⟨A1, c1, x1, e1, i1⟩ := open_ints h1 l1
    obtain ⟨A2, c2, x2, e2, i2⟩ := open_ints h2 l2
    obtain ⟨A3, c3, x3, e3, i3⟩ := open_ints h3 l3
    obtain ⟨A4, c4, x4, e4, i4⟩ := open_ints h4 l4
    injection e0 with e0; injection e1 with e1; injection e2 with e2; injection e3 with e3; injection e4 with e4
    subst e0 e1 e2 e3 e4
    exact ⟨{ Af := A0, cf := c0, fr := x0, A1 := A1, c1 := c1, vat := x1, A2 := A2, c2 := c2, vin := x2, A3 := A3, c3 := c3, cat := x3, A4 := A4, c4 := c4, cin := x4 }, rfl, ⟨n0, r0, i0⟩, i1, i2, i3, i4⟩
set_option maxRecDepth 100000 in
theorem open_case (h : DataW.trod enc Tryz.prog w base sp held fuel 34 cs = some y) (hw : Light Tryz.prog 34 y.1) :
    ∃ (g : EmL) (e : KE) (temp : Int), cs = (caseC g e temp).toList ∧ e.In w w.heap.size ∧ EnvIn0 g w w.heap.size ∧ i64ok temp := by
  obtain ⟨f, parts, hf, hl, hy, hx⟩ := trod_struct_lt fsCase h
  rw [hy] at hw
  rw [cS4] at hl
  obtain ⟨v0, v1, v2, v3, v4, v5, v6, v7, v8, v9, v10, v11, v12, v13, v14, rfl⟩ := list15 hl
  obtain ⟨z0, h0, q0⟩ := hx 0 _ rfl
  obtain ⟨z1, h1, q1⟩ := hx 1 _ rfl
  obtain ⟨z2, h2, q2⟩ := hx 2 _ rfl
  obtain ⟨z3, h3, q3⟩ := hx 3 _ rfl
  obtain ⟨z4, h4, q4⟩ := hx 4 _ rfl
  obtain ⟨z5, h5, q5⟩ := hx 5 _ rfl
  have l0 := hw.part fsCase (j := 0) rfl q0
  have l1 := hw.part fsCase (j := 1) rfl q1
  have l2 := hw.part fsCase (j := 2) rfl q2
  have l5 := hw.part fsCase (j := 5) rfl q5
  simp only [cK7, cK17, cS3, cK5, cS5] at h0 h1 h2 h3 h4 h5 l0 l1 l2 l5
  simp only [List.drop_succ_cons, List.drop_zero, List.take_succ_cons, List.take_zero] at h0 h1 h2 h3 h4 h5
  obtain ⟨e, e0, i0⟩ := open_ke _ _ _ h0 l0
  obtain ⟨A1, c1, x1, e1, n1, r1, i1⟩ := open_row (α := KVar) (R := fun x => x.kind ≤ 255 ∧ i64ok x.dim) (cells := fun x => x.cells.toList) (size := 2) cK16 (by decide) (fun x => rfl) Tryz.underlying28 (of_decide_eq_true (by kernel_rfl)) (fun f c z _ h1 h2 => open_var h1) h1 l1
  obtain ⟨s, e2, i2⟩ := open_space h2 l2
  obtain ⟨a3, e3, w3⟩ := trod_int_inv Tryz.underlying3 h3
  obtain ⟨a4, e4, w4⟩ := trod_int_inv Tryz.underlying3 h4
  obtain ⟨s5, e5, hs5⟩ := trod_string_inv2 Tryz.underlying9 h5
  rw [hs5] at l5
  injection e1 with e1; injection e3 with e3; injection e4 with e4; injection e5 with e5
  subst e1 e3 e4 e5
  refine ⟨{ Av := A1, cv := c1, vars := x1, s := s, frame := a3, label := s5.data.toList }, e, a4, ?_, i0, ⟨i2, ⟨n1, r1, i1⟩, i64_wf w3, l5.str⟩, i64_wf w4⟩
  have e0' : [v0, v1, v2, v3, v4, v5] = [Value.int .u8 e.kind, .int .u8 e.oper, .int .u8 e.tk, .int .i32 e.n, .int .i64 e.v, .slice e.A e.l.length e.c] := e0
  have e2' : [v7, v8, v9, v10, v11] = [Value.slice s.Af s.fr.length s.cf, .slice s.A1 s.vat.length s.c1, .slice s.A2 s.vin.length s.c2, .slice s.A3 s.cat.length s.c3, .slice s.A4 s.cin.length s.c4] := e2
  simp only [List.cons.injEq, and_true] at e0' e2'
  obtain ⟨rfl, rfl, rfl, rfl, rfl, rfl⟩ := e0'
  obtain ⟨rfl, rfl, rfl, rfl, rfl⟩ := e2'
  rfl
end
end Go.Proofs.YtbefmlioampgcaaGreatDoor

/- Rows of rows of words, opened. -/
namespace Go.Proofs.YtbefmlioampgcaaGreatDoor
open Go Go.ChangeShapes Go.WideShapes Go.ChangeAt Go.ChangeMaps Go.RowKit
set_option linter.unusedVariables false

section
variable {H : Type} {enc : TypeId × Value → H} {w : World} {base : Nat} {sp : Nat → Bool} {held : Bool} {fuel : Nat} {cs : List Value} {y : DataW H × List MemPlace}
theorem cR1 : Tryz.prog.cellsOf 21 = 1 := by kernel_rfl
theorem cR2 : Tryz.prog.cellsOf 36 = 1 := by kernel_rfl
theorem open_words (h : DataW.trod enc Tryz.prog w base sp held fuel 36 cs = some y) (hw : Light Tryz.prog 36 y.1) :
    ∃ r : RwL, cs = r.cells ∧ r.In w w.heap.size := by
  obtain ⟨A, c, l, h1, h2, h3, h4⟩ := open_row (α := Int) (R := is32) (cells := fun (x : Int) => [Value.int .i32 x]) (size := 1) cR1 (by decide) (fun x => rfl) Tryz.underlying36 (of_decide_eq_true (by kernel_rfl)) (fun f c z _ h1 h2 => by
    obtain ⟨a, rfl, wa⟩ := trod_int_inv Tryz.underlying21 h1
    exact ⟨a, rfl, i32_bounds wa⟩) h hw
  have e : ∀ l : List Int, l.flatMap (fun (x : Int) => [Value.int .i32 x]) = wordsC l := by
    intro l
    induction l with
    | nil => rfl
    | cons a r ih => rw [List.flatMap_cons, ih]; rfl
  rw [e] at h3
  exact ⟨⟨A, c, l⟩, h1, h2, h3, h4⟩
theorem open_rows (h : DataW.trod enc Tryz.prog w base sp held fuel 35 cs = some y) (hw : Light Tryz.prog 35 y.1) :
    ∃ (A : Option Addr) (c : Nat) (l : List RwL), cs = [.slice A l.length c] ∧ rwsIn w w.heap.size A l := by
  obtain ⟨A, c, l, h1, h2, h3, h4⟩ := open_row (α := RwL) (R := RwL.In w w.heap.size) (cells := RwL.cells) (size := 1) cR2 (by decide) (fun x => rfl) Tryz.underlying35 (of_decide_eq_true (by kernel_rfl)) (fun f c z _ h1 h2 => open_words h1 h2) h hw
  exact ⟨A, c, l, h1, h2, h3, h4⟩
end
end Go.Proofs.YtbefmlioampgcaaGreatDoor
