/- Arguments of Code as one value: great; what an instruction takes and leaves, walked. -/
import Derived.Test.YtbefmlioampgcaaGreatDoorHK17
namespace Go.Proofs.YtbefmlioampgcaaGreatDoor
open Go.RowKit
set_option linter.unusedVariables false
set_option linter.unusedSimpArgs false

/-- Arguments of Code. -/
def caseC (g : EmL) (e : KE) (temp : Int) : Array Value :=
  #[.int .u8 e.kind, .int .u8 e.oper, .int .u8 e.tk, .int .i32 e.n, .int .i64 e.v, .slice e.A e.l.length e.c, .slice g.Av g.vars.length g.cv, .slice g.s.Af g.s.fr.length g.s.cf, .slice g.s.A1 g.s.vat.length g.s.c1, .slice g.s.A2 g.s.vin.length g.s.c2, .slice g.s.A3 g.s.cat.length g.s.c3, .slice g.s.A4 g.s.cin.length g.s.c4,
    .int .i64 g.frame, .int .i64 temp, .string (strB g.label)]
def greatG (g : EmL) : Bool := decide (300 < g.vars.length ∨ 300 < g.s.fr.length ∨ 300 < g.s.vat.length ∨ 300 < g.s.vin.length ∨ 300 < g.s.cat.length ∨ 300 < g.s.cin.length)
set_option maxRecDepth 100000 in
set_option maxHeartbeats 4000000 in
theorem lGreat25 (g : EmL) (e : KE) (temp : Int) (w : World) (h0 : lenOk g.vars) (h1 : lenOk g.s.fr) (h2 : lenOk g.s.vat) (h3 : lenOk g.s.vin) (h4 : lenOk g.s.cat) (h5 : lenOk g.s.cin) :
    Calls Tryz.prog 10 #[.agg (caseC g e temp)] w (RetV (.bool (greatG g)) w) := by
  unfold lenOk at h0 h1 h2 h3 h4 h5
  obtain ⟨W0, hW0⟩ : ∃ W, w.alloc (.cells (caseC g e temp) 34) = W := ⟨_, rfl⟩
  have K0 : Hid (Below w.heap.size w W0) := Lib.hid (by rw [← hW0]; exact (Below.refl _ _).alloc (Nat.le_refl _) _)
  have b0 : Blk W0 w.heap.size 34 (caseC g e temp) := by rw [← hW0]; exact Blk.new _ _ _
  simp only [caseC] at b0 hW0 ⊢
  have HQ : Hid (greatG g = decide (300 < g.vars.length ∨ 300 < g.s.fr.length ∨ 300 < g.s.vat.length ∨ 300 < g.s.vin.length ∨ 300 < g.s.cat.length ∨ 300 < g.s.cin.length)) := Lib.hid rfl
  generalize greatG g = R at *
  generalize strB g.label = SL at *
  generalize g.vars.length = n0 at *
  generalize g.s.fr.length = n1 at *
  generalize g.s.vat.length = n2 at *
  generalize g.s.vin.length = n3 at *
  generalize g.s.cat.length = n4 at *
  generalize g.s.cin.length = n5 at *
  have c0 := b0.cell 0
  have c1 := b0.cell 1
  have c2 := b0.cell 2
  have c3 := b0.cell 3
  have c4 := b0.cell 4
  have c5 := b0.cell 5
  have c6 := b0.cell 6
  have c7 := b0.cell 7
  have c8 := b0.cell 8
  have c9 := b0.cell 9
  have c10 := b0.cell 10
  have c11 := b0.cell 11
  have c12 := b0.cell 12
  have c13 := b0.cell 13
  have c14 := b0.cell 14
  simp at c0 c1 c2 c3 c4 c5 c6 c7 c8 c9 c10 c11 c12 c13 c14
  have hlt := b0.lt
  clear b0
  by_cases q0 : 300 < n0
  · obtain rfl : R = true := by rw [HQ.out]; exact decide_eq_true (by omega)
    go_enter Tryz.func10, Tryz.ntmps10
    go_wp2
    go_ret
    exact ⟨rfl, K0.out⟩
  by_cases q1 : 300 < n1
  · obtain rfl : R = true := by rw [HQ.out]; exact decide_eq_true (by omega)
    go_enter Tryz.func10, Tryz.ntmps10
    go_wp2
    go_ret
    exact ⟨rfl, K0.out⟩
  by_cases q2 : 300 < n2
  · obtain rfl : R = true := by rw [HQ.out]; exact decide_eq_true (by omega)
    go_enter Tryz.func10, Tryz.ntmps10
    go_wp2
    go_ret
    exact ⟨rfl, K0.out⟩
  by_cases q3 : 300 < n3
  · obtain rfl : R = true := by rw [HQ.out]; exact decide_eq_true (by omega)
    go_enter Tryz.func10, Tryz.ntmps10
    go_wp2
    go_ret
    exact ⟨rfl, K0.out⟩
  by_cases q4 : 300 < n4
  · obtain rfl : R = true := by rw [HQ.out]; exact decide_eq_true (by omega)
    go_enter Tryz.func10, Tryz.ntmps10
    go_wp2
    go_ret
    exact ⟨rfl, K0.out⟩
  by_cases q5 : 300 < n5
  · obtain rfl : R = true := by rw [HQ.out]; exact decide_eq_true (by omega)
    go_enter Tryz.func10, Tryz.ntmps10
    go_wp2
    go_ret
    exact ⟨by simp; omega, K0.out⟩
  obtain rfl : R = false := by rw [HQ.out]; exact decide_eq_false (by omega)
  go_enter Tryz.func10, Tryz.ntmps10
  go_wp2
  go_ret
  exact ⟨by simp; omega, K0.out⟩
def effectV (o : Option IRow) : Value := .tuple #[.int .i64 (o.getD irow0).takes, .int .i64 (o.getD irow0).leaves, .bool o.isSome]
end Go.Proofs.YtbefmlioampgcaaGreatDoor
