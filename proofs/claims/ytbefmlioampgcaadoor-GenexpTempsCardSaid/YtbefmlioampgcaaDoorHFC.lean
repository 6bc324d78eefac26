/- What the rows' condition on package-level variables gives the walks of chapter 25, and how its arguments read. -/
import Derived.Test.YtbefmlioampgcaaDoorHK6
import Derived.Test.YtbefmlioampgcaaDoorHK1
import Derived.Test.YtbefmlioampgcaaDoorHK8
import Derived.Test.YtbefmlioampgcaaDoorHK18
import Derived.Test.YtbefmlioampgcaaDoorHK11
import Derived.Test.YtbefmlioampgcaaDoorHK9
import Derived.Lib.LaidTab
import Derived.Stop.LaidErr
import Derived.LaidMore
import Derived.Lay
import Derived.ProofKit
import Derived.OpenShut
import Derived.DataShut
namespace Go.Proofs.YtbefmlioampgcaaDoor
open Go.ChangeShapes Go.WideShapes Go.ChangeAt Go.RowKit

theorem i32_bounds {a : Int} (h : (Lit.int .i32 a).wf = true) : -2147483648 ≤ a ∧ a ≤ 2147483647 := by
  have := (Lit.wf_int_iff _ _).1 h
  simp [IntKind.min, IntKind.max, IntKind.signed, IntKind.bits] at this
  omega
theorem u8_bounds {a : Int} (h : (Lit.int .u8 a).wf = true) : 0 ≤ a ∧ a ≤ 255 := by
  have := (Lit.wf_int_iff _ _).1 h
  simp [IntKind.min, IntKind.max, IntKind.signed, IntKind.bits] at this
  omega
theorem Tryd.own : ownKnob Tryd.prog.godebug = none := by kernel_rfl
theorem Tryd.laidOut : laidOutB Tryd.prog = true := by kernel_rfl
abbrev laidL : List (String × DataW Unit) := Rows.genexpRunsRow.laid
theorem laid_shaped (os : Os) : (World.laidAll Tryd.prog os laidL).Shaped Tryd.prog := World.shaped_of_ZipB (by kernel_rfl) (by kernel_rfl)
theorem laid_met (os : Os) (args : Array Value) : laidMetH Tryd.prog laidL ((World.laidAll Tryd.prog os laidL).forCall (fun _ _ => 0) ⟨#[], args, []⟩).memory := by
  rw [MakeChecks.laidMetH_plain _ _ _ (by kernel_rfl)]
  exact laidMet_laidAll _ (by kernel_rfl) (by kernel_rfl)
theorem var_below {w w' : World} {B : Nat} {n : String} {cs : Array Value} {g : Nat} (hg : Tryd.prog.globalNamed n = some g) (h : w.var? Tryd.prog n = some cs) (hb : Below B w w') (hB : g < B) : w'.var? Tryd.prog n = some cs := by
  unfold World.var? at h ⊢
  simp only [hg, Option.bind_some] at h ⊢
  rw [hb.block g hB]
  exact h
theorem var_lt {w : World} {n : String} {cs : Array Value} {g : Nat} (hg : Tryd.prog.globalNamed n = some g) (h : w.var? Tryd.prog n = some cs) : g < w.heap.size := by
  unfold World.var? at h
  simp only [hg, Option.bind_some] at h
  rcases Nat.lt_or_ge g w.heap.size with h' | h'
  · exact h'
  · simp [Array.getElem?_eq_none h'] at h
theorem gP : Tryd.prog.globalNamed "internal/strconv.uint64pow10" = some 5 := by kernel_rfl
theorem gA : Tryd.prog.globalNamed "strings.asciiSpace" = some 2 := by kernel_rfl
theorem gF : Tryd.prog.globalNamed "transputer/instr.functions" = some 0 := by kernel_rfl
theorem gQ : Tryd.prog.globalNamed "transputer/depth.quiet" = some 1 := by kernel_rfl
/-- An array of strings that reads as the list holds just these. -/
theorem cells_of_strs {H : Type} {enc : TypeId × Value → H} {P : Program} {w : World} {base : Nat} {sp : Nat → Bool} {held : Bool} {fuel : Nat} {t e : TypeId} {n : Nat} {cs : List Value} {zs : List (List UInt8)} {p : List MemPlace}
    (ht : P.underlying t = some (.array n e)) (he : P.underlying e = some .string) (hce : P.cellsOf e = 1) (hct : P.cellsOf t = n)
    (h : DataW.trod enc P w base sp held fuel t cs = some (.agg (zs.map fun z => .lit (.string z)), p)) : cs = zs.map fun z => Value.string (strB z) := by
  cases fuel with
  | zero => simp [DataW.trod] at h
  | succ fuel =>
    simp only [DataW.trod, ht, hce, hct, Nat.mul_one] at h
    split at h
    · rename_i hl
      obtain ⟨xs, hm, hx⟩ := Option.map_eq_some_iff.1 h
      have hxs : xs.map (·.1) = zs.map fun z => (DataW.lit (.string z) : DataW H) := by
        have := congrArg Prod.fst hx
        simpa using this
      have hxl : xs.length = n := by simpa using Lib.mapM_length hm
      have hzl : zs.length = n := by
        have := congrArg List.length hxs
        simp at this
        omega
      apply List.ext_getElem?
      intro i
      by_cases hi : i < n
      · obtain ⟨b, hb, hf⟩ := Lib.mapM_at hm i i (by simp [hi])
        obtain ⟨z, hc, rfl, _⟩ := DataW.trod_string he hf
        have h1 : cs[i]? = some (.string z) := by
          have := congrArg (·[0]?) hc
          simpa [List.getElem?_take, List.getElem?_drop] using this
        have h2 : (xs.map (·.1))[i]? = some (DataW.lit (.string z.data.toList) : DataW H) := by simp [hb]
        rw [hxs] at h2
        simp only [List.getElem?_map, Option.map_eq_some_iff, DataW.lit.injEq, Lit.string.injEq] at h2
        obtain ⟨z', hz', rfl⟩ := h2
        simp [h1, hz', strB]
      · rw [List.getElem?_eq_none (by omega), List.getElem?_eq_none (by simp; omega)]
    · cases h
/-- An array of truths that reads as the list holds just these. -/
theorem cells_of_bools {H : Type} {enc : TypeId × Value → H} {P : Program} {w : World} {base : Nat} {sp : Nat → Bool} {held : Bool} {fuel : Nat} {t e : TypeId} {n : Nat} {cs : List Value} {zs : List Bool} {p : List MemPlace}
    (ht : P.underlying t = some (.array n e)) (he : P.underlying e = some .bool) (hce : P.cellsOf e = 1) (hct : P.cellsOf t = n)
    (h : DataW.trod enc P w base sp held fuel t cs = some (.agg (zs.map fun z => .lit (.bool z)), p)) : cs = zs.map fun z => Value.bool z := by
  cases fuel with
  | zero => simp [DataW.trod] at h
  | succ fuel =>
    simp only [DataW.trod, ht, hce, hct, Nat.mul_one] at h
    split at h
    · rename_i hl
      obtain ⟨xs, hm, hx⟩ := Option.map_eq_some_iff.1 h
      have hxs : xs.map (·.1) = zs.map fun z => (DataW.lit (.bool z) : DataW H) := by
        have := congrArg Prod.fst hx
        simpa using this
      have hxl : xs.length = n := by simpa using Lib.mapM_length hm
      have hzl : zs.length = n := by
        have := congrArg List.length hxs
        simp at this
        omega
      apply List.ext_getElem?
      intro i
      by_cases hi : i < n
      · obtain ⟨b, hb, hf⟩ := Lib.mapM_at hm i i (by simp [hi])
        obtain ⟨z, hc, rfl⟩ := DataW.trod_bool he hf
        have h1 : cs[i]? = some (.bool z) := by
          have := congrArg (·[0]?) hc
          simpa [List.getElem?_take, List.getElem?_drop] using this
        have h2 : (xs.map (·.1))[i]? = some (DataW.lit (.bool z) : DataW H) := by simp [hb]
        rw [hxs] at h2
        simp only [List.getElem?_map, Option.map_eq_some_iff, DataW.lit.injEq, Lit.bool.injEq] at h2
        obtain ⟨z', hz', rfl⟩ := h2
        simp [h1, hz']
      · rw [List.getElem?_eq_none (by omega), List.getElem?_eq_none (by simp; omega)]
    · cases h
theorem fn_data : (Rows.laid_transputer_instr_functions : DataW Unit) = .agg (fnL.map fun z => .lit (.string z)) := by
  simp only [Rows.laid_transputer_instr_functions, fnL, List.map_cons, List.map_nil]
theorem fns_of_head {W : World} {rest : List (String × DataW Unit)} (h : laidMet Tryd.prog (("transputer/instr.functions", Rows.laid_transputer_instr_functions) :: rest) W) : W.var? Tryd.prog "transputer/instr.functions" = some fnV := by
  rw [fn_data] at h
  obtain ⟨ps, ⟨g', t', cs, fuel, p, q, hg', ht', hvar, hd, _, _⟩, _⟩ := h
  obtain rfl := Option.some.inj (gF.symm.trans hg')
  have hty : (Tryd.prog.globals[0]?).map (·.type) = some 126 := by kernel_rfl
  obtain rfl := Option.some.inj (hty.symm.trans ht')
  have hc := cells_of_strs Tryd.underlying126 Tryd.underlying9 (by kernel_rfl) (by kernel_rfl) hd
  rw [hvar]
  congr 1
  apply Array.toList_inj.1
  rw [hc]
  rfl
theorem fnsAt_of {w : World} (h : w.var? Tryd.prog "transputer/instr.functions" = some fnV) : FnsAt w := by
  unfold World.var? at h
  simp only [gF, Option.bind_some] at h
  split at h
  · rename_i o cs t f heq
    refine ⟨t, f, ?_⟩
    obtain rfl := Option.some.inj h
    exact heq
  · cases h
def quietZ : List Bool := (List.range 27).map quietB
theorem quiet_data : (Rows.laid_transputer_depth_quiet : DataW Unit) = .agg (quietZ.map fun z => .lit (.bool z)) := by kernel_rfl
theorem quiet_of_head {W : World} {rest : List (String × DataW Unit)} (h : laidMet Tryd.prog (("transputer/depth.quiet", Rows.laid_transputer_depth_quiet) :: rest) W) : W.var? Tryd.prog "transputer/depth.quiet" = some quietV := by
  rw [quiet_data] at h
  obtain ⟨ps, ⟨g', t', cs, fuel, p, q, hg', ht', hvar, hd, _, _⟩, _⟩ := h
  obtain rfl := Option.some.inj (gQ.symm.trans hg')
  have hty : (Tryd.prog.globals[1]?).map (·.type) = some 138 := by kernel_rfl
  obtain rfl := Option.some.inj (hty.symm.trans ht')
  have hc := cells_of_bools Tryd.underlying138 Tryd.underlying4 (by kernel_rfl) (by kernel_rfl) hd
  rw [hvar]
  congr 1
  apply Array.toList_inj.1
  rw [hc]
  simp [quietV, quietZ]
theorem quietAt_of {w : World} (h : w.var? Tryd.prog "transputer/depth.quiet" = some quietV) : QuietAt w := by
  unfold World.var? at h
  simp only [gQ, Option.bind_some] at h
  split at h
  · rename_i o cs t f heq
    refine ⟨t, f, ?_⟩
    obtain rfl := Option.some.inj h
    exact heq
  · cases h
set_option maxRecDepth 100000 in
theorem laidG_of {W : World} (h : laidMetH Tryd.prog laidL W) : LaidG W.heap.size W := by
  rw [MakeChecks.laidMetH_plain _ _ _ (by kernel_rfl)] at h
  have h2 := h.tail.tail
  have h3 := h2.tail
  have h6 := h3.tail.tail
  have h7 := h6.tail
  have hT : Lib.TabIs Tryd.prog W "internal/strconv.uint64pow10" .u64 Lib.pow10Tab :=
    Lib.tabIs_of_head gP (t := 180) (e := 145) (n := 20) (by kernel_rfl) Tryd.underlying180 Tryd.underlying145 (by kernel_rfl) (by kernel_rfl) h2
  have hA : Lib.TabIs Tryd.prog W "strings.asciiSpace" .u8 Lib.asciiSpaceTab :=
    Lib.tabIs_of_head gA (t := 149) (e := 5) (n := 256) (by kernel_rfl) Tryd.underlying149 Tryd.underlying5 (by kernel_rfl) (by kernel_rfl) h6
  have hF := fns_of_head h7
  have hq := quiet_of_head h3
  exact ⟨⟨fun w' hb => var_below gA hA hb (var_lt gA hA), fun w' hb => fnsAt_of (var_below gF hF hb (var_lt gF hF))⟩,
    fun w' hb => var_below gP hT hb (var_lt gP hT), var_lt gQ hq, quietAt_of hq⟩
instance : Inhabited LineL := ⟨⟨[], 0, 0, [], []⟩⟩
section
variable {H : Type} {enc : TypeId × Value → H} {w : World} {base : Nat} {sp : Nat → Bool} {held : Bool} {fuel : Nat} {cs : List Value} {y : DataW H × List MemPlace}
theorem fsL : Tryd.prog.underlying 51 = some (.struct #[⟨ "Label", 9, 0, false, "", "", 0⟩, ⟨ "Fn", 5, 1, false, "", "", 16⟩, ⟨ "Arg", 21, 2, false, "", "", 20⟩, ⟨ "Target", 9, 3, false, "", "", 24⟩, ⟨ "From", 9, 4, false, "", "", 40⟩]) := by kernel_rfl
set_option maxRecDepth 100000 in
theorem open_line (h : DataW.trod enc Tryd.prog w base sp held fuel 51 cs = some y) (hw : Light Tryd.prog 51 y.1) : ∃ x : LineL, cs = (lineC x).toList ∧ LOk x := by
  obtain ⟨f, parts, hl, hy, hx⟩ := trod_struct_inv2 fsL h
  rw [hy] at hw
  have hl2 : cs.length = 5 := by rw [hl]; kernel_rfl
  have e3 : Tryd.prog.cellsOf 5 = 1 := by kernel_rfl
  have e4 : Tryd.prog.cellsOf 21 = 1 := by kernel_rfl
  have e9 : Tryd.prog.cellsOf 9 = 1 := by kernel_rfl
  match cs, hl2 with
  | [v0, v1, v2, v3, v4], _ =>
    obtain ⟨z0, h0, q0⟩ := hx 0 _ rfl
    obtain ⟨z1, h1, q1⟩ := hx 1 _ rfl
    obtain ⟨z2, h2, q2⟩ := hx 2 _ rfl
    obtain ⟨z3, h3, q3⟩ := hx 3 _ rfl
    obtain ⟨z4, h4, q4⟩ := hx 4 _ rfl
    have l0 := hw.part fsL (j := 0) rfl q0
    have l3 := hw.part fsL (j := 3) rfl q3
    have l4 := hw.part fsL (j := 4) rfl q4
    simp only at h0 h1 h2 h3 h4 l0 l3 l4
    obtain ⟨s0, ha, hs0⟩ := trod_string_inv2 Tryd.underlying9 h0
    obtain ⟨a, hb, wa⟩ := trod_int_inv Tryd.underlying5 h1
    obtain ⟨b, hc, wb⟩ := trod_int_inv Tryd.underlying21 h2
    obtain ⟨s3, hd, hs3⟩ := trod_string_inv2 Tryd.underlying9 h3
    obtain ⟨s4, he, hs4⟩ := trod_string_inv2 Tryd.underlying9 h4
    rw [hs0] at l0
    rw [hs3] at l3
    rw [hs4] at l4
    simp only [e3, e4, e9] at ha hb hc hd he
    simp at ha hb hc hd he
    subst ha hb hc hd he
    have ba := u8_bounds wa
    have bb := i32_bounds wb
    refine ⟨⟨s0.data.toList, a.toNat, b, s3.data.toList, s4.data.toList⟩, ?_, by simp only; omega, bb, l0.str, l3.str, l4.str⟩
    simp only [lineC]
    rw [show ((a.toNat : Nat) : Int) = a by omega]
    rfl
theorem open_lines (h : DataW.trod enc Tryd.prog w base sp held fuel 22 cs = some y) (hw : Light Tryd.prog 22 y.1) :
    ∃ A c ls, cs = [.slice A (ls.length : Nat) c] ∧ Reads w w.heap.size 5 A ls.length (linesL ls) ∧ (∀ x ∈ ls, LOk x) ∧ ls.length ≤ 9223372036854775807 := by
  obtain ⟨A, m, c, ls, rfl, hr, rfl, ho, hl1, hl2⟩ := open_slice_of (α := LineL) (R := LOk) (cells := fun x => (lineC x).toList) (size := 5) (by kernel_rfl) (by decide) (fun x => by simp [lineC]) Tryd.underlying22 (fun f c z h1 h2 => open_line h1 h2) h hw
  exact ⟨A, c, ls, rfl, hr, ho, by unfold maxLen at hl2; omega⟩
theorem open_i32s (h : DataW.trod enc Tryd.prog w base sp held fuel 23 cs = some y) (hw : Light Tryd.prog 23 y.1) :
    ∃ (A : Option Addr) (c : Nat) (l : List Int), cs = [.slice A (l.length : Nat) c] ∧ Reads w w.heap.size 1 A l.length (wordsC l) ∧ (∀ v ∈ l, is32 v) ∧ l.length ≤ 9223372036854775807 := by
  obtain ⟨A, m, c, l, rfl, hr, rfl, ho, hl1, hl2⟩ := open_slice_of (α := Int) (R := is32) (cells := fun (x : Int) => [Value.int .i32 x]) (size := 1) (by kernel_rfl) (by decide) (fun x => rfl) Tryd.underlying23 (fun f c z h1 h2 => by
    obtain ⟨a, rfl, wa⟩ := trod_int_inv Tryd.underlying21 h1
    exact ⟨a, rfl, i32_bounds wa⟩) h hw
  refine ⟨A, c, l, rfl, ?_, ho, ?_⟩
  · have e : ∀ l : List Int, l.flatMap (fun (x : Int) => [Value.int .i32 x]) = wordsC l := by
      intro l
      induction l with
      | nil => rfl
      | cons a r ih => rw [List.flatMap_cons, ih]; rfl
    rwa [e] at hr
  · unfold maxLen at hl2
    omega
end
end Go.Proofs.YtbefmlioampgcaaDoor
