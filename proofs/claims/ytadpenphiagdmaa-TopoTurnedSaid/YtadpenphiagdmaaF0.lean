/- The argument 'a network' as it reads: its cells. -/
import Derived.Test.YtadpenphiagdmaaOpen
import Derived.Test.YtadpenphiagdmaaL4
namespace Go.Proofs.Ytadpenphiagdmaa
open Go.RowKit
set_option linter.unusedVariables false
set_option linter.unusedSimpArgs false

theorem Try.own : ownKnob Try.prog.godebug = none := by kernel_rfl
theorem Try.laidOut : laidOutB Try.prog = true := by kernel_rfl

theorem flat_get {cells : Nat → List Value} {size : Nat} : ∀ {n : Nat}, (∀ i, i < n → (cells i).length = size) →
    ((List.range n).flatMap cells).length = n * size ∧ ∀ (j : Nat) (u : Value), ((List.range n).flatMap cells)[j]? = some u → ∃ i r, i < n ∧ j = i * size + r ∧ (cells i)[r]? = some u
  | 0, _ => ⟨by simp, fun j u h => by simp at h⟩
  | n + 1, hl => by
    obtain ⟨h1, h2⟩ := flat_get (n := n) (fun i hi => hl i (by omega))
    rw [List.range_succ, List.flatMap_append]
    have e : List.flatMap cells [n] = cells n := by simp
    rw [e]
    refine ⟨by rw [List.length_append, h1, hl n (by omega), Nat.succ_mul], fun j u h => ?_⟩
    rcases Nat.lt_or_ge j (n * size) with hlt | hge
    · rw [List.getElem?_append_left (by omega)] at h
      obtain ⟨i, r, hi, hj, hu⟩ := h2 j u h
      exact ⟨i, r, by omega, hj, hu⟩
    · rw [List.getElem?_append_right (by omega), h1] at h
      exact ⟨n, j - n * size, by omega, by omega, h⟩
theorem Reads.of_rows {w : World} {B size n : Nat} {a : Addr} {cells : Nat → List Value} (hl : ∀ i, i < n → (cells i).length = size) (hc : ∀ i, i < n → ∀ j u, (cells i)[j]? = some u → w.cell? ((a.add (i * size)).add j) = some u)
    (hb : 0 < n → a.block < B) : Reads w B size (some a) n ((List.range n).flatMap cells) := by
  obtain ⟨h1, h2⟩ := flat_get hl
  refine ⟨h1, fun hn => ⟨a, rfl, hb hn, fun j u hu => ?_⟩⟩
  obtain ⟨i, r, hi, rfl, hu'⟩ := h2 j u hu
  rw [← add_of_add]
  exact hc i hi r u hu'

section
variable {H : Type} {enc : TypeId × Value → H} {w : World} {base : Nat} {sp : Nat → Bool} {held : Bool} {fuel : Nat} {cs : List Value} {y : DataW H × List MemPlace}
theorem fs24 : Try.prog.underlying 24 = some (.struct #[⟨ "Node", 3, 0, false, "", "", 0⟩, ⟨ "Link", 3, 1, false, "", "", 8⟩]) := by kernel_rfl
theorem open_port (h : DataW.trod enc Try.prog w base sp held fuel 24 cs = some y) : ∃ a b, cs = [.int .i64 a, .int .i64 b] ∧ (Lit.int .i64 a).wf = true ∧ (Lit.int .i64 b).wf = true := by
  obtain ⟨f, hl, hx⟩ := trod_struct_inv fs24 h
  have hl2 : cs.length = 2 := by rw [hl]; kernel_rfl
  match cs, hl2 with
  | [v0, v1], _ =>
    obtain ⟨z0, h0⟩ := hx ⟨ "Node", 3, 0, false, "", "", 0⟩ (by simp)
    obtain ⟨z1, h1⟩ := hx ⟨ "Link", 3, 1, false, "", "", 8⟩ (by simp)
    have e3 : Try.prog.cellsOf 3 = 1 := by kernel_rfl
    obtain ⟨a, ha, wa⟩ := trod_int_inv Try.underlying3 h0
    obtain ⟨b, hb, wb⟩ := trod_int_inv Try.underlying3 h1
    simp only [e3] at ha hb
    simp at ha hb
    subst ha hb
    exact ⟨a, b, rfl, wa, wb⟩
theorem fs50 : Try.prog.underlying 50 = some (.struct #[⟨ "A", 24, 0, false, "", "", 0⟩, ⟨ "B", 24, 2, false, "", "", 16⟩]) := by kernel_rfl
theorem open_wire (h : DataW.trod enc Try.prog w base sp held fuel 50 cs = some y) : ∃ x : Wire, cs = x.cells := by
  obtain ⟨f, hl, hx⟩ := trod_struct_inv fs50 h
  have hl2 : cs.length = 4 := by rw [hl]; kernel_rfl
  match cs, hl2 with
  | [v0, v1, v2, v3], _ =>
    obtain ⟨z0, h0⟩ := hx ⟨ "A", 24, 0, false, "", "", 0⟩ (by simp)
    obtain ⟨z1, h1⟩ := hx ⟨ "B", 24, 2, false, "", "", 16⟩ (by simp)
    have e3 : Try.prog.cellsOf 24 = 2 := by kernel_rfl
    obtain ⟨a, b, ha, _⟩ := open_port h0
    obtain ⟨c, d, hb, _⟩ := open_port h1
    simp only [e3] at ha hb
    simp at ha hb
    obtain ⟨rfl, rfl⟩ := ha
    obtain ⟨rfl, rfl⟩ := hb
    exact ⟨⟨a, b, c, d⟩, rfl⟩
theorem fs26 : Try.prog.underlying 26 = some (.struct #[⟨ "Nodes", 3, 0, false, "", "", 0⟩, ⟨ "Wires", 22, 1, false, "", "", 8⟩, ⟨ "Host", 24, 2, false, "", "", 32⟩]) := by kernel_rfl
theorem open_topo (h : DataW.trod enc Try.prog w base sp held fuel 26 cs = some y) :
    ∃ N A m c hn hl ws, cs = [.int .i64 N, .slice A m c, .int .i64 hn, .int .i64 hl] ∧ Reads w w.heap.size 4 A m (wcells ws) ∧ m ≤ c ∧ c ≤ maxLen := by
  obtain ⟨f, hl, hx⟩ := trod_struct_inv fs26 h
  have hl2 : cs.length = 4 := by rw [hl]; kernel_rfl
  match cs, hl2 with
  | [v0, v1, v2, v3], _ =>
    obtain ⟨z0, h0⟩ := hx ⟨ "Nodes", 3, 0, false, "", "", 0⟩ (by simp)
    obtain ⟨z1, h1⟩ := hx ⟨ "Wires", 22, 1, false, "", "", 8⟩ (by simp)
    obtain ⟨z2, h2⟩ := hx ⟨ "Host", 24, 2, false, "", "", 32⟩ (by simp)
    have e3 : Try.prog.cellsOf 3 = 1 := by kernel_rfl
    have e24 : Try.prog.cellsOf 24 = 2 := by kernel_rfl
    have e22 : Try.prog.cellsOf 22 = 1 := by kernel_rfl
    have e50 : Try.prog.cellsOf 50 = 4 := by kernel_rfl
    obtain ⟨N, ha, _⟩ := trod_int_inv Try.underlying3 h0
    obtain ⟨hn, hlk, hb, _⟩ := open_port h2
    have hc := trod_slice_inv Try.underlying22 h1
    simp only [e3, e24, e22] at ha hb hc
    simp at ha hb hc
    subst ha
    obtain ⟨rfl, rfl⟩ := hb
    rcases hc with rfl | ⟨a, m, cap, ⟨rfl, h3, h4, f', h5⟩⟩
    · exact ⟨N, none, 0, 0, hn, hlk, [], rfl, Reads.none_, by omega, by omega⟩
    · rw [e50] at h5
      have h6 : ∀ i, ∃ x : Wire, i < m → w.cells? base (a.add (i * 4)) 4 = some x.cells := fun i => by
        by_cases hi : i < m
        · obtain ⟨c, hc, p, q, ht⟩ := h5 i hi
          obtain ⟨x, rfl⟩ := open_wire ht
          exact ⟨x, fun _ => hc⟩
        · exact ⟨⟨0, 0, 0, 0⟩, fun h => (hi h).elim⟩
      have hcf := Classical.axiomOfChoice h6
      obtain ⟨g, hg⟩ := hcf
      refine ⟨N, some a, m, cap, hn, hlk, (List.range m).map g, rfl, ?_, h3, h4⟩
      have e : wcells ((List.range m).map g) = (List.range m).flatMap fun i => (g i).cells := by
        simp [wcells, List.flatMap_map]
      rw [e]
      refine Reads.of_rows (fun i _ => rfl) (fun i hi j u hu => ?_) (fun hm => ?_)
      · exact (cells_inv (hg i hi)).2 j u hu
      · have := World.cells?_block (hg 0 hm) (by omega)
        rwa [block_of_add] at this
end
end Go.Proofs.Ytadpenphiagdmaa
