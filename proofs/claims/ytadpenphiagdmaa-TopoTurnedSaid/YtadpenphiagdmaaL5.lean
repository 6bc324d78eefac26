/- The law's own function same, at two networks that read alike; the law TopoPeers walked. -/
import Derived.Test.YtadpenphiagdmaaF0
namespace Go.Proofs.Ytadpenphiagdmaa
open Go.RowKit
set_option linter.unusedVariables false
set_option linter.unusedSimpArgs false

theorem portEq_self (a b : Int) : portEq a b a b = true := by simp [portEq]
theorem wire_neq_self (w : World) (a b c d : Int) : (binOp .neq 50 (.agg #[.int .i64 a, .int .i64 b, .int .i64 c, .int .i64 d]) (.agg #[.int .i64 a, .int .i64 b, .int .i64 c, .int .i64 d])).run Try.prog w = .ok (.bool false) w := by
  have h : (Op.equalIn (9997 + 3) 50 (.agg #[.int .i64 a, .int .i64 b, .int .i64 c, .int .i64 d]) (.agg #[.int .i64 a, .int .i64 b, .int .i64 c, .int .i64 d])).run Try.prog w = .ok true w := by
    rw [run_equalIn_struct w (9997 + 2) 50 _ _ (by kernel_rfl) (by kernel_rfl)]
    have hf : (Try.prog.fieldsOf 50).toList = [⟨ "A", 24, 0, false, "", "", 0⟩, ⟨ "B", 24, 2, false, "", "", 16⟩] := by kernel_rfl
    rw [hf]
    have e24 : Try.prog.underlying 24 = _ := fs24
    simp [Op.eqFields, part, port_eqIn w, portEq_self]
  simp only [binOp]
  simp [Op.equal, Op.maxDepth, h]
theorem wire_guard (w : World) (op : BinOp) (x y : Operand) (xs ys : Array Value) : (eqGuard op 50 x y (.agg xs) (.agg ys)).run Try.prog w = .ok () w :=
  run_eqGuard_agg w op 50 x y xs ys (by kernel_rfl)
set_option maxHeartbeats 1000000 in
theorem lsame (N hn hl : Int) (A B : Option Addr) (m c d : Nat) (ws : List Wire) (w : World) (hr : Reads w w.heap.size 4 A m (wcells ws)) (hr2 : Reads w w.heap.size 4 B m (wcells ws)) (hm : m ≤ 1000000) :
    Calls Try.prog 22 #[.agg #[.int .i64 N, .slice A m c, .int .i64 hn, .int .i64 hl], .agg #[.int .i64 N, .slice B m d, .int .i64 hn, .int .i64 hl]] w (RetV (.bool true) w) := by
  obtain ⟨k0, b0, b1⟩ := lay2 w #[.int .i64 N, .slice A m c, .int .i64 hn, .int .i64 hl] #[.int .i64 N, .slice B m d, .int .i64 hn, .int .i64 hl] 26 26
  have hlen : ws.length = m := by have := hr.1; rw [wcells_length] at this; omega
  have Hl := Lib.hid hlen; clear hlen
  have hpe := portEq_self hn hl
  have hq := fun w => wire_neq_self w
  have hg := fun w => wire_guard w
  go_enter Try.func22, Try.ntmps22
  go_upto_region 3 with (fail)
  obtain ⟨W, hW⟩ : ∃ W, (w.alloc (.cells #[.int .i64 N, .slice A m c, .int .i64 hn, .int .i64 hl] 26)).alloc (.cells #[.int .i64 N, .slice B m d, .int .i64 hn, .int .i64 hl] 26) = W := ⟨_, rfl⟩
  rw [hW] at k0 b0 b1 ⊢
  have rA := hr.up k0 k0.size
  have rB := hr2.up k0 k0.size
  clear hr hr2 hW
  have c0 := b0.cell 0
  have c1 := b0.cell 1
  have c2 := b0.cell 2
  have c3 := b0.cell 3
  simp at c0 c1 c2 c3
  have d0 := b1.cell 0
  have d1 := b1.cell 1
  have d2 := b1.cell 2
  have d3 := b1.cell 3
  simp at d0 d1 d2 d3
  go_wp2
  go_loopw [30] (fun i wr => ∃ k : Nat, i = .int .i64 k ∧ k ≤ m ∧ ∃ n, wr = W.drewN n) (fun i _ => m - (intOf i).toNat)
  case atStart => exact ⟨0, rfl, by omega, 0, rfl⟩
  case round =>
    obtain ⟨k, rfl, hk, n, rfl⟩ := hrel
    by_cases hlt : k < m
    · have hkI : (k : Int) < (m : Int) := by omega
      obtain ⟨ba, oa, rfl, hba, hca⟩ := rA.addr (by omega) (by omega)
      obtain ⟨bb, ob, rfl, hbb, hcb⟩ := rB.addr (by omega) (by omega)
      obtain ⟨x, hx⟩ : ∃ x, ws[k]? = some x := ⟨_, List.getElem?_eq_getElem (by rw [Hl.out]; exact hlt)⟩
      have a0 := hca _ _ (wcells_get ws k x hx 0 _ rfl)
      have a1 := hca _ _ (wcells_get ws k x hx 1 _ rfl)
      have a2 := hca _ _ (wcells_get ws k x hx 2 _ rfl)
      have a3 := hca _ _ (wcells_get ws k x hx 3 _ rfl)
      have b0 := hcb _ _ (wcells_get ws k x hx 0 _ rfl)
      have b1 := hcb _ _ (wcells_get ws k x hx 1 _ rfl)
      have b2 := hcb _ _ (wcells_get ws k x hx 2 _ rfl)
      have b3 := hcb _ _ (wcells_get ws k x hx 3 _ rfl)
      clear hca hcb
      have Hx := Lib.hid hx; clear hx
      simp only [Nat.add_zero, ← Nat.add_assoc] at a0 a1 a2 a3 b0 b1 b2 b3
      go_wp2
      go_quiet (fail)
      go_wp2
      go_roundw
      case rel => exact ⟨k + 1, by go_num, by omega, _, rfl⟩
      case measure => simp [intOf]; omega
    · go_wp2
      go_ret
      exact ⟨rfl, k0.drewN' _⟩
end Go.Proofs.Ytadpenphiagdmaa
