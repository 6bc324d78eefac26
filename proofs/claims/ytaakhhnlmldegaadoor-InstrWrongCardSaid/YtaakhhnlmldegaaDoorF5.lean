
/- What the row's condition on package-level variables gives the walks of chapter 05, and how its arguments read. -/
import Derived.Test.YtaakhhnlmldegaaDoorI9
import Derived.Test.YtaakhhnlmldegaaDoorOpen
import Derived.Test.YtaakhhnlmldegaaDoorMaxShelf
import Derived.Test.YtaakhhnlmldegaaDoorK1
import Derived.Test.YtaakhhnlmldegaaDoorHS
import Derived.Lib.LaidTab
import Derived.Stop.LaidErr
import Derived.LaidMore
import Derived.Lay
import Derived.ProofKit
import Derived.OpenShut
import Derived.DataShut
namespace Go.Proofs.YtaakhhnlmldegaaDoor
open Go.ChangeShapes Go.WideShapes Go.ChangeAt Go.RowKit

theorem i32_bounds {a : Int} (h : (Lit.int .i32 a).wf = true) : -2147483648 ≤ a ∧ a ≤ 2147483647 := by
  have := (Lit.wf_int_iff _ _).1 h
  simp [IntKind.min, IntKind.max, IntKind.signed, IntKind.bits] at this
  omega
theorem u8_bounds {a : Int} (h : (Lit.int .u8 a).wf = true) : 0 ≤ a ∧ a ≤ 255 := by
  have := (Lit.wf_int_iff _ _).1 h
  simp [IntKind.min, IntKind.max, IntKind.signed, IntKind.bits] at this
  omega
theorem Tryd.own : ownKnob Tryd.prog.godebug = none := by kernel_rfl
theorem Tryd.laidOut : laidOutB Tryd.prog = true := by kernel_rfl
abbrev laidL : List (String × DataW Unit) := Rows.instrNamesRow.laid
theorem laid_shaped (os : Os) : (World.laidAll Tryd.prog os laidL).Shaped Tryd.prog := World.shaped_of_ZipB (by kernel_rfl) (by kernel_rfl)
theorem laid_met (os : Os) (args : Array Value) : laidMetH Tryd.prog laidL ((World.laidAll Tryd.prog os laidL).forCall (fun _ _ => 0) ⟨#[], args, []⟩).memory := by
  rw [MakeChecks.laidMetH_plain _ _ _ (by kernel_rfl)]
  exact laidMet_laidAll _ (by kernel_rfl) (by kernel_rfl)
theorem var_below {w w' : World} {B : Nat} {n : String} {cs : Array Value} {g : Nat} (hg : Tryd.prog.globalNamed n = some g) (h : w.var? Tryd.prog n = some cs) (hb : Below B w w') (hB : g < B) : w'.var? Tryd.prog n = some cs := by
  unfold World.var? at h ⊢
  simp only [hg, Option.bind_some] at h ⊢
  rw [hb.block g hB]
  exact h
theorem var_lt {w : World} {n : String} {cs : Array Value} {g : Nat} (hg : Tryd.prog.globalNamed n = some g) (h : w.var? Tryd.prog n = some cs) : g < w.heap.size := by
  unfold World.var? at h
  simp only [hg, Option.bind_some] at h
  rcases Nat.lt_or_ge g w.heap.size with h' | h'
  · exact h'
  · simp [Array.getElem?_eq_none h'] at h
theorem gS : Tryd.prog.globalNamed "strconv.ErrSyntax" = some 8 := by kernel_rfl
theorem gR : Tryd.prog.globalNamed "strconv.ErrRange" = some 9 := by kernel_rfl
theorem gP : Tryd.prog.globalNamed "internal/strconv.uint64pow10" = some 7 := by kernel_rfl
theorem gA : Tryd.prog.globalNamed "strings.asciiSpace" = some 1 := by kernel_rfl
theorem gF : Tryd.prog.globalNamed "transputer/instr.functions" = some 0 := by kernel_rfl
theorem star_es : "*" ++ "errors.errorString" = "*errors.errorString" := by decide
theorem rowE (u : TypeId) (h : Tryd.prog.typeName? 3 u = some "*errors.errorString") : u = 157 :=
  typeName_ptr_named (nm := "errors.errorString") (by rw [star_es]; kernel_rfl) (by kernel_rfl) (by decide) u (by rw [star_es]; exact h)
/-- An array of strings that reads as the list holds just these. -/
theorem cells_of_strs {H : Type} {enc : TypeId × Value → H} {P : Program} {w : World} {base : Nat} {sp : Nat → Bool} {held : Bool} {fuel : Nat} {t e : TypeId} {n : Nat} {cs : List Value} {zs : List (List UInt8)} {p : List MemPlace}
    (ht : P.underlying t = some (.array n e)) (he : P.underlying e = some .string) (hce : P.cellsOf e = 1) (hct : P.cellsOf t = n)
    (h : DataW.trod enc P w base sp held fuel t cs = some (.agg (zs.map fun z => .lit (.string z)), p)) : cs = zs.map fun z => Value.string (strB z) := by
  cases fuel with
  | zero => simp [DataW.trod] at h
  | succ fuel =>
    simp only [DataW.trod, ht, hce, hct, Nat.mul_one] at h
    split at h
    · rename_i hl
      obtain ⟨xs, hm, hx⟩ := Option.map_eq_some_iff.1 h
      have hxs : xs.map (·.1) = zs.map fun z => (DataW.lit (.string z) : DataW H) := by
        have := congrArg Prod.fst hx
        simpa using this
      have hxl : xs.length = n := by simpa using Lib.mapM_length hm
      have hzl : zs.length = n := by
        have := congrArg List.length hxs
        simp at this
        omega
      apply List.ext_getElem?
      intro i
      by_cases hi : i < n
      · obtain ⟨b, hb, hf⟩ := Lib.mapM_at hm i i (by simp [hi])
        obtain ⟨z, hc, rfl, _⟩ := DataW.trod_string he hf
        have h1 : cs[i]? = some (.string z) := by
          have := congrArg (·[0]?) hc
          simpa [List.getElem?_take, List.getElem?_drop] using this
        have h2 : (xs.map (·.1))[i]? = some (DataW.lit (.string z.data.toList) : DataW H) := by simp [hb]
        rw [hxs] at h2
        simp only [List.getElem?_map, Option.map_eq_some_iff, DataW.lit.injEq, Lit.string.injEq] at h2
        obtain ⟨z', hz', rfl⟩ := h2
        simp [h1, hz', strB]
      · rw [List.getElem?_eq_none (by omega), List.getElem?_eq_none (by simp; omega)]
    · cases h
theorem fn_data : (Rows.laid_transputer_instr_functions : DataW Unit) = .agg (fnL.map fun z => .lit (.string z)) := by
  simp only [Rows.laid_transputer_instr_functions, fnL, List.map_cons, List.map_nil]
theorem fns_of_head {W : World} {rest : List (String × DataW Unit)} (h : laidMet Tryd.prog (("transputer/instr.functions", Rows.laid_transputer_instr_functions) :: rest) W) : W.var? Tryd.prog "transputer/instr.functions" = some fnV := by
  rw [fn_data] at h
  obtain ⟨ps, ⟨g', t', cs, fuel, p, q, hg', ht', hvar, hd, _, _⟩, _⟩ := h
  obtain rfl := Option.some.inj (gF.symm.trans hg')
  have hty : (Tryd.prog.globals[0]?).map (·.type) = some 48 := by kernel_rfl
  obtain rfl := Option.some.inj (hty.symm.trans ht')
  have hc := cells_of_strs Tryd.underlying48 Tryd.underlying9 (by kernel_rfl) (by kernel_rfl) hd
  rw [hvar]
  congr 1
  apply Array.toList_inj.1
  rw [hc]
  rfl
theorem fnsAt_of {w : World} (h : w.var? Tryd.prog "transputer/instr.functions" = some fnV) : FnsAt w := by
  unfold World.var? at h
  simp only [gF, Option.bind_some] at h
  split at h
  · rename_i o cs t f heq
    refine ⟨t, f, ?_⟩
    obtain rfl := Option.some.inj h
    exact heq
  · cases h
set_option maxRecDepth 100000 in
theorem laid_of {W : World} (h : laidMetH Tryd.prog laidL W) : Laid5 W.heap.size W := by
  rw [MakeChecks.laidMetH_plain _ _ _ (by kernel_rfl)] at h
  have h2 := h.tail.tail
  have h3 := h2.tail.tail
  have h4 := h3.tail
  have h6 := h4.tail.tail
  have h7 := h6.tail
  have hT : Lib.TabIs Tryd.prog W "internal/strconv.uint64pow10" .u64 Lib.pow10Tab :=
    Lib.tabIs_of_head gP (t := 145) (e := 118) (n := 20) (by kernel_rfl) Tryd.underlying145 Tryd.underlying118 (by kernel_rfl) (by kernel_rfl) h2
  have hA : Lib.TabIs Tryd.prog W "strings.asciiSpace" .u8 Lib.asciiSpaceTab :=
    Lib.tabIs_of_head gA (t := 90) (e := 5) (n := 256) (by kernel_rfl) Tryd.underlying90 Tryd.underlying5 (by kernel_rfl) (by kernel_rfl) h6
  have hF := fns_of_head h7
  have tS : (Tryd.prog.globals[8]?).map (·.type) = some 58 := by kernel_rfl
  have tR : (Tryd.prog.globals[9]?).map (·.type) = some 58 := by kernel_rfl
  have cE : Tryd.prog.cellsOf 159 = 1 := by kernel_rfl
  have c9 : Tryd.prog.cellsOf 9 = 1 := by kernel_rfl
  obtain ⟨a1, s1, hv1, -, -, -⟩ := laid_sentinel h3 gR tR Tryd.underlying58 rowE Tryd.underlying157 Tryd.underlying159 rfl rfl Tryd.underlying9 cE c9
  obtain ⟨a0, s0, hv0, -, -, -⟩ := laid_sentinel h4 gS tS Tryd.underlying58 rowE Tryd.underlying157 Tryd.underlying159 rfl rfl Tryd.underlying9 cE c9
  exact ⟨⟨_, _, _, _, fun w' hb => ⟨var_below gS hv0 hb (var_lt gS hv0), var_below gR hv1 hb (var_lt gR hv1), var_below gP hT hb (var_lt gP hT)⟩⟩,
    fun w' hb => var_below gA hA hb (var_lt gA hA), fun w' hb => fnsAt_of (var_below gF hF hb (var_lt gF hF))⟩
theorem maxAt_of {W : World} (h : W.ShapedOpen Tryd.prog) : MaxAt W.heap.size W := by
  obtain ⟨m, hm⟩ := Tryd.laysM144.s1_3 W h
  have hm' : W.cell? ⟨3, 0, none⟩ = some (.int .i64 m) := hm
  have hlt : 3 < W.heap.size := by
    rcases Nat.lt_or_ge 3 W.heap.size with h' | h'
    · exact h'
    · simp [World.cell?, Array.getElem?_eq_none h'] at hm'
  exact ⟨m, fun w' hb => (hb.cell (p := ⟨3, 0, none⟩) hlt).trans hm'⟩
section
variable {H : Type} {enc : TypeId × Value → H} {w : World} {base : Nat} {sp : Nat → Bool} {held : Bool} {fuel : Nat} {cs : List Value} {y : DataW H × List MemPlace}
theorem fsI : Tryd.prog.underlying 23 = some (.struct #[⟨ "Fn", 5, 0, false, "", "", 0⟩, ⟨ "Arg", 21, 1, false, "", "", 4⟩]) := by kernel_rfl
set_option maxRecDepth 100000 in
theorem open_inst (h : DataW.trod enc Tryd.prog w base sp held fuel 23 cs = some y) : ∃ a b, cs = [.int .u8 a, .int .i32 b] ∧ (Lit.int .u8 a).wf = true ∧ (Lit.int .i32 b).wf = true := by
  obtain ⟨f, hl, hx⟩ := trod_struct_inv fsI h
  have hl2 : cs.length = 2 := by rw [hl]; kernel_rfl
  match cs, hl2 with
  | [v0, v1], _ =>
    obtain ⟨z0, h0⟩ := hx ⟨ "Fn", 5, 0, false, "", "", 0⟩ (by simp)
    obtain ⟨z1, h1⟩ := hx ⟨ "Arg", 21, 1, false, "", "", 4⟩ (by simp)
    have e3 : Tryd.prog.cellsOf 5 = 1 := by kernel_rfl
    have e4 : Tryd.prog.cellsOf 21 = 1 := by kernel_rfl
    obtain ⟨a, ha, wa⟩ := trod_int_inv Tryd.underlying5 h0
    obtain ⟨b, hb, wb⟩ := trod_int_inv Tryd.underlying21 h1
    simp only [e3, e4] at ha hb
    simp at ha hb
    subst ha hb
    exact ⟨a, b, rfl, wa, wb⟩
end
end Go.Proofs.YtaakhhnlmldegaaDoor
