/- check, walked: the loop over the lines' forms. -/
import Derived.Test.YtbefmlioampgcaaGreatDoorHK8
namespace Go.Proofs.YtbefmlioampgcaaGreatDoor
open Go.RowKit Go.Maps Go.WideMaps

theorem lines_at {w : World} {B n : Nat} {A : Option Addr} {ls : List LineL} (h : Reads w B 5 A n (linesL ls)) {k : Nat} (hk : k < n) :
    ∃ b off x, A = some ⟨b, off, none⟩ ∧ b < B ∧ ls[k]? = some x ∧ w.cell? ⟨b, off + k * 5, none⟩ = some (.string (strB x.label)) ∧ w.cell? ⟨b, off + k * 5 + 1, none⟩ = some (.int .u8 x.fn) ∧ w.cell? ⟨b, off + k * 5 + 2, none⟩ = some (.int .i32 x.arg) ∧
      w.cell? ⟨b, off + k * 5 + 3, none⟩ = some (.string (strB x.target)) ∧ w.cell? ⟨b, off + k * 5 + 4, none⟩ = some (.string (strB x.frm)) := by
  have hl := h.1
  rw [linesL_len] at hl
  obtain ⟨b, off, rfl, hb, hc⟩ := h.addr (by omega) (by omega)
  obtain ⟨x, hx⟩ : ∃ x, ls[k]? = some x := ⟨_, List.getElem?_eq_getElem (by omega)⟩
  obtain ⟨h0, h1, h2, h3, h4⟩ := linesL_at hx
  rw [Nat.mul_comm] at h0 h1 h2 h3 h4
  have c0 := hc _ _ h0
  have c1 := hc _ _ h1
  have c2 := hc _ _ h2
  have c3 := hc _ _ h3
  have c4 := hc _ _ h4
  simp only [← Nat.add_assoc] at c1 c2 c3 c4
  exact ⟨b, off, x, rfl, hb, hx, c0, c1, c2, c3, c4⟩
theorem lines_len {w : World} {B n : Nat} {A : Option Addr} {ls : List LineL} (h : Reads w B 5 A n (linesL ls)) : ls.length = n := by
  have hl := h.1
  rw [linesL_len] at hl
  omega
theorem all_take_succ {ls : List LineL} {k : Nat} {x : LineL} (hx : ls[k]? = some x) (h : (ls.take k).all validB = true) (hv : validB x = true) : (ls.take (k + 1)).all validB = true := by
  rw [List.take_add_one, hx, List.all_append, h]
  simp [hv]
theorem take_succ_of {ls : List LineL} {k : Nat} {x : LineL} (hx : ls[k]? = some x) : ls.take (k + 1) = ls.take k ++ [x] := by
  rw [List.take_add_one, hx]; rfl
abbrev OwnI (w : World) (b n : Nat) (D : DataW Unit) : Prop := w.ownsMap Tryz.prog 9 (plainElem (H := Unit) Tryz.prog 3) b n D
theorem lawStr : Keyed Tryz.prog 9 := string_keyed Tryz.underlying9
set_option maxRecDepth 100000 in
theorem str_key {l : List UInt8} (h : l.length ≤ 281474976710656) : keyOf Tryz.prog 9 (.string (strB l)) = some (.string l) := by
  have h1 := keyOf_string_mk (P := Tryz.prog) Tryz.underlying9 (s := strB l) (by rw [strB_size]; unfold maxLen; omega)
  have e : (strB l).data.toList = l := by simp [strB]
  rwa [e] at h1
theorem zero_int (w : World) : (zeroValue 3).run Tryz.prog w = .ok (.int .i64 0) w := by kernel_rfl
set_option maxRecDepth 100000 in
theorem own_ok {w : World} {b n : Nat} {D : DataW Unit} (h : OwnI w b n D) {l : List UInt8} (hl : l.length ≤ 281474976710656) :
    ∃ c, (Instr.lookup 74 (.map (some b)) (.string (strB l)) true).run Tryz.prog w = .ok (.tuple #[.int .i64 c, .bool (Maps.has D (.string l))]) w := by
  obtain ⟨v, ps, hrun, hv⟩ := h.look_ok lawStr Tryz.underlying74 (zero_int w) (plainElem_int Tryz.underlying3 (by decide)) (str_key hl)
  obtain ⟨c, rfl, -⟩ := plainElem_int_inv Tryz.underlying3 hv
  exact ⟨c, hrun⟩
theorem S5.own {B : Nat} {w0 w w1 : World} {b : Nat} (h : S5 B w0 w) (hg : w.grownBy w1 (some b)) (hB : B ≤ w0.heap.size) (hb : w0.heap.size ≤ b) : S5 B w0 w1 := by
  have k1 : Below w0.heap.size w0 w1 := h.k.grown hg h.k.size (fun k e => by injection e; omega)
  have k2 : Below B w w1 := (Below.refl B w).grown hg h.b (fun k e => by injection e; omega)
  exact ⟨h.l.on k2, Nat.le_trans h.b hg.size, k1⟩
theorem own_call {w w1 : World} {b n : Nat} {D : DataW Unit} (h : OwnI w b n D) (hb : Below w.heap.size w w1) : OwnI w1 b n D := h.kept (row := none) ⟨hb.os, hb.tape, hb.output, hb.size, fun k hk _ => hb.block k hk⟩ (by simp)

/-- What check leaves. -/
def RetC (ls : List LineL) (w : World) (e : Ending) (w' : World) : Prop :=
  Below w.heap.size w w' ∧ ((checkE ls = 0 ∧ ∃ b n, e = .returned (.tuple #[.map (some b), .int .i64 0]) ∧ OwnI w' b n (mapL ls) ∧ w.heap.size ≤ b ∧ Dist ls) ∨
    (checkE ls ≠ 0 ∧ e = .returned (.tuple #[.map none, .int .i64 (checkE ls)])))
end Go.Proofs.YtbefmlioampgcaaGreatDoor
