/- Texts that belong together, joined: what each one holds is told ahead of it. -/
import Derived.Test.YtekamebpjjkifaaHK2
import Derived.Test.YtekamebpjjkifaaHK1
import Derived.Test.YtekamebpjjkifaaHK45
/- The arguments of the laws of chapter 40 as they read: a kernel, a network, placings. -/
namespace Go.Proofs.Ytekamebpjjkifaa
open Go.RowKit Go.Maps
set_option linter.unusedSimpArgs false
set_option linter.unusedVariables false

theorem listN2 {α : Type} {l : List α} (h : l.length = 2) : ∃ a b, l = [a, b] := by
  match l, h with
  | [a, b], _ => exact ⟨a, b, rfl⟩
theorem listN4 {α : Type} {l : List α} (h : l.length = 4) : ∃ a b c d, l = [a, b, c, d] := by
  match l, h with
  | [a, b, c, d], _ => exact ⟨a, b, c, d, rfl⟩
theorem listN5 {α : Type} {l : List α} (h : l.length = 5) : ∃ a b c d e, l = [a, b, c, d, e] := by
  match l, h with
  | [a, b, c, d, e], _ => exact ⟨a, b, c, d, e, rfl⟩
theorem ownK : ownKnob Try.prog.godebug = none := by kernel_rfl
theorem laidOutK : laidOutB Try.prog = true := by kernel_rfl
section
variable {H : Type} {enc : TypeId × Value → H} {w : World} {base : Nat} {sp : Nat → Bool} {held : Bool} {fuel : Nat} {cs : List Value} {y : DataW H × List MemPlace}
theorem open_kk_cap (h : DataW.trod enc Try.prog w base sp held fuel 34 cs = some y) (hw : Light Try.prog 34 y.1) : ∃ k : KK, cs = k.row ∧ k.In w w.heap.size ∧ k.procs.length ≤ k.cp := by
  obtain ⟨k, hk, hin⟩ := open_kk h hw
  refine ⟨k, hk, hin, ?_⟩
  obtain ⟨f, parts, hf, hl, hy, hx⟩ := trod_struct_lt fsKK h
  obtain ⟨z3, h3, -⟩ := hx 3 _ rfl
  rw [hk] at h3
  simp only [cK19] at h3
  have h4 := trod_slice_inv Try.underlying32 h3
  have e : ((k.row.drop 10).take 1) = [.slice k.Ap k.procs.length k.cp] := rfl
  rcases h4 with h4 | ⟨a, len, cap, f', h4, h5, -⟩
  · rw [e] at h4
    injection h4 with h4
    injection h4 with _ h6 h7
    omega
  · rw [e] at h4
    injection h4 with h4
    injection h4 with _ h6 h7
    omega
theorem fsPort : Try.prog.underlying 38 = some (.struct #[⟨ "Node", 3, 0, false, "", "", 0⟩, ⟨ "Link", 3, 1, false, "", "", 8⟩]) := by kernel_rfl
theorem fsWire : Try.prog.underlying 94 = some (.struct #[⟨ "A", 38, 0, false, "", "", 0⟩, ⟨ "B", 38, 2, false, "", "", 16⟩]) := by kernel_rfl
theorem fsTopo : Try.prog.underlying 40 = some (.struct #[⟨ "Nodes", 3, 0, false, "", "", 0⟩, ⟨ "Wires", 36, 1, false, "", "", 8⟩, ⟨ "Host", 38, 2, false, "", "", 32⟩]) := by kernel_rfl
theorem fsPlc : Try.prog.underlying 56 = some (.struct #[⟨ "C", 3, 0, false, "", "", 0⟩, ⟨ "Out", 38, 1, false, "", "", 8⟩, ⟨ "In", 38, 3, false, "", "", 24⟩]) := by kernel_rfl
theorem cPort : Try.prog.cellsOf 38 = 2 := by kernel_rfl
theorem cWire : Try.prog.cellsOf 94 = 4 := by kernel_rfl
theorem cWires : Try.prog.cellsOf 36 = 1 := by kernel_rfl
theorem cTopo : Try.prog.cellsOf 40 = 4 := by kernel_rfl
theorem cPlc : Try.prog.cellsOf 56 = 5 := by kernel_rfl
theorem open_port (h : DataW.trod enc Try.prog w base sp held fuel 38 cs = some y) : ∃ a b, cs = [.int .i64 a, .int .i64 b] ∧ i64ok a ∧ i64ok b := by
  obtain ⟨f, parts, -, hl, -, hx⟩ := trod_struct_lt fsPort h
  rw [cPort] at hl
  obtain ⟨v0, v1, rfl⟩ := listN2 hl
  obtain ⟨z0, h0, -⟩ := hx 0 _ rfl
  obtain ⟨z1, h1, -⟩ := hx 1 _ rfl
  simp only [cK5] at h0 h1
  obtain ⟨a, ha, wa⟩ := trod_int_inv Try.underlying3 h0
  obtain ⟨b, hb, wb⟩ := trod_int_inv Try.underlying3 h1
  simp at ha hb
  subst ha hb
  exact ⟨a, b, rfl, i64_wf wa, i64_wf wb⟩
theorem open_wire (h : DataW.trod enc Try.prog w base sp held fuel 94 cs = some y) : ∃ x : Wire, cs = x.cells := by
  obtain ⟨f, parts, -, hl, -, hx⟩ := trod_struct_lt fsWire h
  rw [cWire] at hl
  obtain ⟨v0, v1, v2, v3, rfl⟩ := listN4 hl
  obtain ⟨z0, h0, -⟩ := hx 0 _ rfl
  obtain ⟨z1, h1, -⟩ := hx 1 _ rfl
  simp only [cPort] at h0 h1
  obtain ⟨a, b, ha, -⟩ := open_port h0
  obtain ⟨c, d, hb, -⟩ := open_port h1
  simp at ha hb
  obtain ⟨rfl, rfl⟩ := ha
  obtain ⟨rfl, rfl⟩ := hb
  exact ⟨⟨a, b, c, d⟩, rfl⟩
instance : Inhabited Wire := ⟨⟨0, 0, 0, 0⟩⟩
instance : Inhabited Plc := ⟨plcZ⟩
theorem open_topo (h : DataW.trod enc Try.prog w base sp held fuel 40 cs = some y) (hw : Light Try.prog 40 y.1) : ∃ t : TN, cs = t.flat.toList ∧ t.In w w.heap.size := by
  obtain ⟨f, parts, -, hl, hy, hx⟩ := trod_struct_lt fsTopo h
  rw [hy] at hw
  rw [cTopo] at hl
  obtain ⟨v0, v1, v2, v3, rfl⟩ := listN4 hl
  obtain ⟨z0, h0, -⟩ := hx 0 _ rfl
  obtain ⟨z1, h1, q1⟩ := hx 1 _ rfl
  obtain ⟨z2, h2, -⟩ := hx 2 _ rfl
  have l1 := hw.part fsTopo (j := 1) rfl q1
  simp only [cK5, cWires, cPort] at h0 h1 h2 l1
  simp only [List.drop_succ_cons, List.drop_zero, List.take_succ_cons, List.take_zero] at h0 h1 h2
  obtain ⟨N, ha, -⟩ := trod_int_inv Try.underlying3 h0
  obtain ⟨hn, hlk, hb, -⟩ := open_port h2
  obtain ⟨A1, c1, ws, e1, n1, r1, -⟩ := open_row (α := Wire) (R := fun _ => True) (cells := Wire.cells) (size := 4) cWire (by decide) (fun _ => rfl) Try.underlying36 (of_decide_eq_true (by kernel_rfl)) (fun f c z _ h1 h2 => by
    obtain ⟨x, hx⟩ := open_wire h1
    exact ⟨x, hx, trivial⟩) h1 l1
  injection ha with ha
  injection e1 with e1
  injection hb with hb hb'
  injection hb' with hb'
  subst ha e1 hb hb'
  exact ⟨⟨N, A1, c1, ws, hn, hlk⟩, rfl, r1⟩
theorem open_plc (h : DataW.trod enc Try.prog w base sp held fuel 56 cs = some y) : ∃ x : Plc, cs = x.cells.toList ∧ okPt x.o ∧ okPt x.i := by
  obtain ⟨f, parts, -, hl, -, hx⟩ := trod_struct_lt fsPlc h
  rw [cPlc] at hl
  obtain ⟨v0, v1, v2, v3, v4, rfl⟩ := listN5 hl
  obtain ⟨z0, h0, -⟩ := hx 0 _ rfl
  obtain ⟨z1, h1, -⟩ := hx 1 _ rfl
  obtain ⟨z2, h2, -⟩ := hx 2 _ rfl
  simp only [cK5, cPort] at h0 h1 h2
  obtain ⟨c, hc, -⟩ := trod_int_inv Try.underlying3 h0
  obtain ⟨a, b, ha, wa, wb⟩ := open_port h1
  obtain ⟨a', b', ha', wa', wb'⟩ := open_port h2
  simp at hc ha ha'
  subst hc
  obtain ⟨rfl, rfl⟩ := ha
  obtain ⟨rfl, rfl⟩ := ha'
  exact ⟨⟨c, (a, b), (a', b')⟩, rfl, ⟨wa, wb⟩, wa', wb'⟩
theorem open_plcs (h : DataW.trod enc Try.prog w base sp held fuel 50 cs = some y) (hw : Light Try.prog 50 y.1) :
    ∃ (A : Option Addr) (c : Nat) (l : List Plc), cs = [.slice A l.length c] ∧ l.length ≤ 140737488355328 ∧ Reads w w.heap.size 5 A l.length (plcC l) ∧ ∀ x ∈ l, okPt x.o ∧ okPt x.i :=
  open_row (α := Plc) (R := fun x => okPt x.o ∧ okPt x.i) (cells := fun x => x.cells.toList) (size := 5) cPlc (by decide) (fun _ => rfl) Try.underlying50 (of_decide_eq_true (by kernel_rfl)) (fun f c z _ h1 h2 => open_plc h1) h hw
end
end Go.Proofs.Ytekamebpjjkifaa
