/- What the row's condition on package-level variables gives the walks: the variables that strconv reads, as laid. -/
import Derived.Test.YtkmdigejohcnlaaDoorW5
import Derived.Lib.LaidTab
import Derived.Stop.LaidErr
import Derived.LaidMore
import Derived.ProofKit
import Derived.OpenShut
import Derived.DataShut
namespace Go.Proofs.YtkmdigejohcnlaaDoor
open Go.ChangeShapes Go.WideShapes Go.ChangeAt Go.RowKit

theorem i32_bounds {a : Int} (h : (Lit.int .i32 a).wf = true) : -2147483648 ≤ a ∧ a ≤ 2147483647 := by
  have := (Lit.wf_int_iff _ _).1 h
  simp [IntKind.min, IntKind.max, IntKind.signed, IntKind.bits] at this
  omega
theorem u8_bounds {a : Int} (h : (Lit.int .u8 a).wf = true) : 0 ≤ a ∧ a ≤ 255 := by
  have := (Lit.wf_int_iff _ _).1 h
  simp [IntKind.min, IntKind.max, IntKind.signed, IntKind.bits] at this
  omega
theorem Tryd.own : ownKnob Tryd.prog.godebug = none := by kernel_rfl
abbrev laidL : List (String × DataW Unit) := Rows.wordShiftsRow.laid
theorem door_met (os : Os) (args : Array Value) : laidMetH Tryd.prog laidL ((World.doorLaid Tryd.prog 62 os).forCall (fun _ _ => 0) ⟨#[], args, []⟩).memory :=
  laidMetH_of_parts3 (fuel := 8) (laidMet_of_run' 8 (by kernel_rfl) (by kernel_rfl)) (by kernel_rfl) (by kernel_rfl)
theorem var_below {w w' : World} {n : String} {cs : Array Value} (h : w.var? Tryd.prog n = some cs) (hb : Below w.heap.size w w') : w'.var? Tryd.prog n = some cs := by
  unfold World.var? at h ⊢
  cases hg : Tryd.prog.globalNamed n with
  | none => simp [hg] at h
  | some g =>
    simp only [hg, Option.bind_some] at h ⊢
    have hlt : g < w.heap.size := by
      rcases Nat.lt_or_ge g w.heap.size with h' | h'
      · exact h'
      · simp [Array.getElem?_eq_none h'] at h
    rw [hb.block g hlt]
    exact h
theorem gS : Tryd.prog.globalNamed "strconv.ErrSyntax" = some 0 := by kernel_rfl
theorem gR : Tryd.prog.globalNamed "strconv.ErrRange" = some 1 := by kernel_rfl
theorem gP : Tryd.prog.globalNamed "internal/strconv.uint64pow10" = some 2 := by kernel_rfl
theorem tS : (Tryd.prog.globals[0]?).map (·.type) = some 49 := by kernel_rfl
theorem tR : (Tryd.prog.globals[1]?).map (·.type) = some 49 := by kernel_rfl
theorem cE : Tryd.prog.cellsOf 82 = 1 := by kernel_rfl
theorem c9 : Tryd.prog.cellsOf 9 = 1 := by kernel_rfl
theorem star_es : "*" ++ "errors.errorString" = "*errors.errorString" := by decide
theorem row80 (u : TypeId) (h : Tryd.prog.typeName? 3 u = some "*errors.errorString") : u = 80 :=
  typeName_ptr_named (nm := "errors.errorString") (by rw [star_es]; kernel_rfl) (by kernel_rfl) (by decide) u (by rw [star_es]; exact h)
theorem laid_of {W : World} (h : laidMetH Tryd.prog laidL W) : Laid W.heap.size W := by
  rw [MakeChecks.laidMetH_plain _ _ _ (by kernel_rfl)] at h
  have h2 := h.tail.tail
  have h3 := h2.tail
  have h4 := h3.tail
  have hT : Lib.TabIs Tryd.prog W "internal/strconv.uint64pow10" .u64 Lib.pow10Tab :=
    Lib.tabIs_of_head gP (t := 85) (e := 44) (n := 20) (by kernel_rfl) Tryd.underlying85 Tryd.underlying44 (by kernel_rfl) (by kernel_rfl) h2
  obtain ⟨a1, s1, hv1, -, -, -⟩ := laid_sentinel h3 gR tR Tryd.underlying49 row80 Tryd.underlying80 Tryd.underlying82 rfl rfl Tryd.underlying9 cE c9
  obtain ⟨a0, s0, hv0, -, -, -⟩ := laid_sentinel h4 gS tS Tryd.underlying49 row80 Tryd.underlying80 Tryd.underlying82 rfl rfl Tryd.underlying9 cE c9
  exact ⟨_, _, _, _, fun w' hb => ⟨var_below hv0 hb, var_below hv1 hb, var_below hT hb⟩⟩
end Go.Proofs.YtkmdigejohcnlaaDoor
