/- walks -/
import Derived.Test.YtadpenphiagdmaaBase
namespace Go.Proofs.Ytadpenphiagdmaa
open Go.RowKit
set_option linter.unusedVariables false
set_option linter.unusedSimpArgs false

def portEq (a b c d : Int) : Bool := decide (a = c ∧ b = d)
theorem port_eqIn (w : World) (n : Nat) (a b c d : Int) : (Op.equalIn (n + 2) 24 (.agg #[.int .i64 a, .int .i64 b]) (.agg #[.int .i64 c, .int .i64 d])).run Try.prog w = .ok (portEq a b c d) w := by
  rw [run_equalIn_struct w (n + 1) 24 _ _ (by kernel_rfl) (by kernel_rfl)]
  have hf : (Try.prog.fieldsOf 24).toList = [⟨ "Node", 3, 0, false, "", "", 0⟩, ⟨ "Link", 3, 1, false, "", "", 8⟩] := by kernel_rfl
  rw [hf]
  have u3 := Try.underlying3
  by_cases h1 : a = c <;> by_cases h2 : b = d <;> simp [Op.eqFields, part, run_equalIn_int _ _ _ _ _ _ _ u3, portEq, h1, h2]
@[go_sem ↓] theorem port_eql (w : World) (a b c d : Int) : (binOp .eql 24 (.agg #[.int .i64 a, .int .i64 b]) (.agg #[.int .i64 c, .int .i64 d])).run Try.prog w = .ok (.bool (portEq a b c d)) w := by
  simp only [binOp]
  simp [Op.equal, Op.maxDepth, port_eqIn w 9998]
@[go_sem ↓] theorem port_neq (w : World) (a b c d : Int) : (binOp .neq 24 (.agg #[.int .i64 a, .int .i64 b]) (.agg #[.int .i64 c, .int .i64 d])).run Try.prog w = .ok (.bool (!portEq a b c d)) w := by
  simp only [binOp]
  simp [Op.equal, Op.maxDepth, port_eqIn w 9998]
@[go_sem ↓] theorem port_guard (w : World) (op : BinOp) (x y : Operand) (xs ys : Array Value) : (eqGuard op 24 x y (.agg xs) (.agg ys)).run Try.prog w = .ok () w :=
  run_eqGuard_agg w op 24 x y xs ys (by kernel_rfl)

@[go_sem ↓] theorem port_field0 (w : World) (a b : Value) : (Instr.field 24 (.agg #[a, b]) 0).run Try.prog w = .ok a w := by kernel_rfl
@[go_sem ↓] theorem port_field1 (w : World) (a b : Value) : (Instr.field 24 (.agg #[a, b]) 1).run Try.prog w = .ok b w := by kernel_rfl
def existsB (n a b : Int) : Bool := decide (0 ≤ a ∧ a < n ∧ 0 ≤ b ∧ b < 4)

set_option maxHeartbeats 400000 in
theorem rexists (n a b : Int) (w : World) :
    Calls Try.prog 33 #[.int .i64 n, .agg #[.int .i64 a, .int .i64 b]] w (RetV (.bool (existsB n a b)) w) := by
  go_enter Try.func33, Try.ntmps33
  go_wp2
  all_goals
    go_ret
    exact ⟨by congr 2; unfold existsB; simp_all; try omega, (Below.refl _ _).alloc (Nat.le_refl _) _⟩

structure Wire where
  a : Int
  b : Int
  c : Int
  d : Int

def Wire.cells (x : Wire) : List Value := [.int .i64 x.a, .int .i64 x.b, .int .i64 x.c, .int .i64 x.d]
def wcells (ws : List Wire) : List Value := ws.flatMap Wire.cells

theorem wcells_length (ws : List Wire) : (wcells ws).length = 4 * ws.length := by
  induction ws with
  | nil => rfl
  | cons x r ih => simp [wcells, Wire.cells] at ih ⊢; omega
theorem wcells_get (ws : List Wire) (k : Nat) (x : Wire) (h : ws[k]? = some x) (j : Nat) (u : Value) (hj : x.cells[j]? = some u) : (wcells ws)[k * 4 + j]? = some u := by
  induction ws generalizing k with
  | nil => simp at h
  | cons y r ih =>
    have hlen : y.cells.length = 4 := rfl
    cases k with
    | zero =>
      simp at h; subst h
      have hjl : j < 4 := by
        rcases Nat.lt_or_ge j 4 with h | h
        · exact h
        · rw [List.getElem?_eq_none (by rw [hlen]; omega)] at hj; cases hj
      simp only [wcells, List.flatMap_cons]
      rw [List.getElem?_append_left (by rw [hlen]; omega)]
      simpa using hj
    | succ k =>
      simp at h
      simp only [wcells, List.flatMap_cons]
      rw [List.getElem?_append_right (by rw [hlen]; omega), hlen, show (k + 1) * 4 + j - 4 = k * 4 + j from by omega]
      exact ih k h

def peerL : List Wire → Int → Int → Option (Int × Int)
  | [], _, _ => none
  | x :: r, a, b => if x.a = a ∧ x.b = b then some (x.c, x.d) else if x.c = a ∧ x.d = b then some (x.a, x.b) else peerL r a b

def peerV (r : Option (Int × Int)) : Value := match r with
  | some (a, b) => .tuple #[.agg #[.int .i64 a, .int .i64 b], .bool true]
  | none => .tuple #[.agg #[.int .i64 0, .int .i64 0], .bool false]

theorem peerL_no {ws : List Wire} {k : Nat} {x : Wire} {a b : Int} (hx : ws[k]? = some x) (h1 : portEq x.a x.b a b = false) (h2 : portEq x.c x.d a b = false) : peerL (ws.drop k) a b = peerL (ws.drop (k + 1)) a b := by
  obtain ⟨hk, rfl⟩ := List.getElem?_eq_some_iff.1 hx
  simp only [portEq, decide_eq_false_iff_not] at h1 h2
  rw [List.drop_eq_getElem_cons hk, peerL, if_neg h1, if_neg h2]
theorem peerL_one {ws : List Wire} {k : Nat} {x : Wire} {a b : Int} (hx : ws[k]? = some x) (h1 : portEq x.a x.b a b = true) : peerL (ws.drop k) a b = some (x.c, x.d) := by
  obtain ⟨hk, rfl⟩ := List.getElem?_eq_some_iff.1 hx
  simp only [portEq, decide_eq_true_eq] at h1
  rw [List.drop_eq_getElem_cons hk, peerL, if_pos h1]
theorem peerL_two {ws : List Wire} {k : Nat} {x : Wire} {a b : Int} (hx : ws[k]? = some x) (h1 : portEq x.a x.b a b = false) (h2 : portEq x.c x.d a b = true) : peerL (ws.drop k) a b = some (x.a, x.b) := by
  obtain ⟨hk, rfl⟩ := List.getElem?_eq_some_iff.1 hx
  simp only [portEq, decide_eq_true_eq, decide_eq_false_iff_not] at h1 h2
  rw [List.drop_eq_getElem_cons hk, peerL, if_neg h1, if_pos h2]
theorem peerL_end {ws : List Wire} {k : Nat} {a b : Int} (h : ws.length ≤ k) : peerL (ws.drop k) a b = none := by
  rw [List.drop_eq_nil_of_le h]; rfl

set_option maxHeartbeats 400000 in
theorem rpeer (N hn hl a b : Int) (A : Option Addr) (m c : Nat) (ws : List Wire) (w : World) (hr : Reads w w.heap.size 4 A m (wcells ws)) (hm : m ≤ 1000000) :
    Calls Try.prog 29 #[.agg #[.int .i64 N, .slice A m c, .int .i64 hn, .int .i64 hl], .agg #[.int .i64 a, .int .i64 b]] w (RetV (peerV (peerL ws a b)) w) := by
  have hlen : ws.length = m := by have := hr.1; rw [wcells_length] at this; omega
  go_enter Try.func29, Try.ntmps29
  go_wp2
  go_loopw [6] (fun i wr => ∃ k : Nat, k ≤ m ∧ i = .int .i64 k ∧ peerL ws a b = peerL (ws.drop k) a b ∧ Below w.heap.size w wr ∧
      Blk wr w.heap.size 26 #[.int .i64 N, .slice A m c, .int .i64 hn, .int .i64 hl] ∧ Blk wr (w.heap.size + 1) 24 #[.int .i64 a, .int .i64 b] ∧ Blk wr (w.heap.size + 1 + 1) 24 #[.int .i64 0, .int .i64 0]) (fun i _ => m - (intOf i).toNat)
  case atStart =>
    refine ⟨0, by omega, rfl, rfl, ((((Below.refl _ _).alloc (Nat.le_refl _) _).alloc (by simp) _).alloc (by simp; omega) _), ((Blk.new _ _ _).alloc _).alloc _, ?_, ?_⟩
    · have := ((Blk.new (w.alloc (Obj.cells #[Value.int IntKind.i64 N, Value.slice A m c, Value.int IntKind.i64 hn, Value.int IntKind.i64 hl] 26)) 24 #[.int .i64 a, .int .i64 b]).alloc (Obj.cells #[Value.int IntKind.i64 0, Value.int IntKind.i64 0] 24))
      simpa using this
    · have := (Blk.new ((w.alloc (Obj.cells #[Value.int IntKind.i64 N, Value.slice A m c, Value.int IntKind.i64 hn, Value.int IntKind.i64 hl] 26)).alloc (Obj.cells #[Value.int IntKind.i64 a, Value.int IntKind.i64 b] 24)) 24 #[.int .i64 0, .int .i64 0])
      simpa using this
  case round =>
    obtain ⟨k, hk, rfl, hp, hB, b0, b1, b2⟩ := hrel
    have Hp := Lib.hid hp; clear hp
    have c01 := b0.cell 1
    have c10 := b1.cell 0
    have c11 := b1.cell 1
    have c20 := b2.cell 0
    have c21 := b2.cell 1
    have f20 := b2.frozen 0
    have f21 := b2.frozen 1
    simp at c01 c10 c11 c20 c21
    by_cases hlt : k < m
    · obtain ⟨bk, off, rfl, hb, hc⟩ := (hr.below hB).addr (by omega) (by omega)
      obtain ⟨x, hx⟩ : ∃ x, ws[k]? = some x := ⟨_, List.getElem?_eq_getElem (by omega)⟩
      have h0 := hc _ _ (wcells_get ws k x hx 0 _ rfl)
      have h1 := hc _ _ (wcells_get ws k x hx 1 _ rfl)
      have h2 := hc _ _ (wcells_get ws k x hx 2 _ rfl)
      have h3 := hc _ _ (wcells_get ws k x hx 3 _ rfl)
      have Hx := Lib.hid hx; clear hx
      have Hl := Lib.hid hlen; clear hlen
      clear hc
      simp only [Nat.add_zero, ← Nat.add_assoc] at h0 h1 h2 h3
      go_wp2
      cases he1 : portEq x.a x.b a b
      · have He1 := Lib.hid he1
        cases he2 : portEq x.c x.d a b
        · have He2 := Lib.hid he2
          go_quiet (fail)
          go_wp2
          go_quiet (fail)
          go_wp2
          go_roundw
          case rel =>
            refine ⟨k + 1, by omega, by go_num, ?_, hB.drewN' _, b0.drewN _, b1.drewN _, b2.drewN _⟩
            rw [Hp.out]; exact peerL_no Hx.out He1.out He2.out
          case measure => simp [intOf]; omega
        · go_quiet (fail)
          go_wp2
          go_quiet (fail)
          go_wp2
          refine bodyPost_ret (v := .tuple #[.agg #[.int .i64 x.a, .int .i64 x.b], .bool true]) (by simp [results, Try.results29, go_sem, c20, c21]) rfl ⟨?_, ?_⟩
          · rw [Hp.out, peerL_two Hx.out He1.out he2]; rfl
          · exact ((hB.drewN' _).setCell (by simp; omega) _).setCell (by simp; omega) _
      · go_quiet (fail)
        go_wp2
        refine bodyPost_ret (v := .tuple #[.agg #[.int .i64 x.c, .int .i64 x.d], .bool true]) (by simp [results, Try.results29, go_sem, c20, c21]) rfl ⟨?_, ?_⟩
        · rw [Hp.out, peerL_one Hx.out he1]; rfl
        · exact ((hB.drewN' _).setCell (by simp; omega) _).setCell (by simp; omega) _
    · go_wp2
      refine bodyPost_ret (v := .tuple #[.agg #[.int .i64 0, .int .i64 0], .bool false]) (by simp [results, Try.results29, go_sem, c20, c21]) rfl ⟨?_, ?_⟩
      · rw [Hp.out, peerL_end (by omega)]; rfl
      · exact (hB.setCell (by simp; omega) _).setCell (by simp; omega) _
end Go.Proofs.Ytadpenphiagdmaa
