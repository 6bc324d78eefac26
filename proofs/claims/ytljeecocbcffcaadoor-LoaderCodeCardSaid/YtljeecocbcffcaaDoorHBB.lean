/- A row of cells that is stored into. AsmNumbers, walked. -/
import Derived.Test.YtljeecocbcffcaaDoorHK8
import Derived.Test.YtljeecocbcffcaaDoorHK10
namespace Go.Proofs.YtljeecocbcffcaaDoor
open Go.RowKit Go.Maps Go.WideMaps Go.Shelf
set_option linter.unusedSimpArgs false
set_option linter.unusedVariables false

/-- A block whose first cells are known. -/
def RowC (w : World) (g : Nat) (t : TypeId) (xs : List Value) : Prop := ∃ cur, Blk w g t cur ∧ xs.length ≤ cur.size ∧ cur.toList.take xs.length = xs
section
variable {w w' : World} {g : Nat} {t : TypeId} {xs : List Value}
theorem RowC.of_own {B n c size : Nat} (h : w.ownsRow B t size (.slice (some ⟨g, 0, none⟩) n c) n xs) : RowC w g t xs := by
  have hl := h.1
  rcases h.2 with ⟨e, _⟩ | ⟨g', cap, cur, e, hb, hg, hc, hm, hs, ht⟩
  · cases e
  · injection e with e1 e2 e3
    injection e1 with e1
    injection e1 with e1
    subst e1 e3
    refine ⟨cur, hg, ?_, ?_⟩
    · rw [hs, hl]; exact Nat.mul_le_mul_right _ hc
    · rw [hl]; exact ht
theorem RowC.lt (h : RowC w g t xs) : g < w.heap.size := by
  obtain ⟨cur, hb, _⟩ := h
  exact hb.lt
theorem RowC.drewN (h : RowC w g t xs) (k : Nat) : RowC (w.drewN k) g t xs := h
theorem RowC.drew (h : RowC w g t xs) : RowC w.drew g t xs := h
theorem RowC.alloc (h : RowC w g t xs) (o : Obj) : RowC (w.alloc o) g t xs := by
  obtain ⟨cur, hb, h1⟩ := h
  exact ⟨cur, hb.alloc o, h1⟩
theorem RowC.call (h : RowC w g t xs) (k : Below w.heap.size w w') : RowC w' g t xs := by
  obtain ⟨cur, hb, h1⟩ := h
  exact ⟨cur, hb.call k, h1⟩
theorem RowC.grown {row : Option Nat} (h : RowC w g t xs) (hb : w.grownBy w' row) (hg : some g ≠ row) : RowC w' g t xs := by
  obtain ⟨cur, hc, h1⟩ := h
  exact ⟨cur, hc.grown hb hg, h1⟩
theorem RowC.far (h : RowC w g t xs) {p : Addr} (hp : g ≠ p.block) (u : Value) : RowC (w.setCell p u) g t xs := by
  obtain ⟨cur, hc, h1⟩ := h
  exact ⟨cur, hc.far hp u, h1⟩
theorem RowC.reads {n size : Nat} (h : RowC w g t xs) (hn : xs.length = n * size) : Reads w w.heap.size size (some ⟨g, 0, none⟩) n xs := by
  obtain ⟨cur, hb, h1, h2⟩ := h
  refine ⟨hn, fun _ => ⟨_, rfl, hb.lt, fun j u hu => ?_⟩⟩
  have hadd : (⟨g, 0, none⟩ : Addr).add j = ⟨g, j, none⟩ := by unfold Addr.add; split <;> simp_all
  have hj := (List.getElem?_eq_some_iff.1 hu).1
  rw [hadd, hb.cell j]
  rw [← h2, List.getElem?_take_of_lt hj] at hu
  simpa using hu
theorem RowC.cell (h : RowC w g t xs) {j : Nat} {u : Value} (hu : xs[j]? = some u) : w.cell? ⟨g, j, none⟩ = some u := by
  obtain ⟨cur, hb, h1, h2⟩ := h
  have hj := (List.getElem?_eq_some_iff.1 hu).1
  rw [hb.cell j]
  rw [← h2, List.getElem?_take_of_lt hj] at hu
  simpa using hu
theorem RowC.frozen (h : RowC w g t xs) (i : Nat) : w.frozen? ⟨g, i, none⟩ = false := by
  obtain ⟨cur, hb, _⟩ := h
  exact hb.frozen i
theorem RowC.set (h : RowC w g t xs) (i : Nat) (u : Value) : RowC (w.setCell ⟨g, i, none⟩ u) g t (xs.set i u) := by
  obtain ⟨cur, hb, h1, h2⟩ := h
  refine ⟨_, hb.set_ i u, by simpa using h1, ?_⟩
  rw [List.length_set, Array.toList_setIfInBounds, List.take_set, h2]
end
/-- A line of which operand and names are stored anew. -/
theorem linesL_set : ∀ (ls : List LineL) (k : Nat) (x y : LineL), ls[k]? = some x → y.label = x.label → y.fn = x.fn →
    (((linesL ls).set (k * 5 + 2) (.int .i32 y.arg)).set (k * 5 + 3) (.string (strB y.target))).set (k * 5 + 4) (.string (strB y.frm)) = linesL (ls.set k y)
  | [], k, x, y, h, _, _ => by simp at h
  | z :: r, 0, x, y, h, h1, h2 => by
    simp at h; subst h
    simp [linesL, lineC, h1, h2]
  | z :: r, k + 1, x, y, h, h1, h2 => by
    have ih := linesL_set r k x y (by simpa using h) h1 h2
    have e : linesL (z :: r) = (lineC z).toList ++ linesL r := by simp [linesL]
    have e2 : linesL ((z :: r).set (k + 1) y) = (lineC z).toList ++ linesL (r.set k y) := by simp [linesL]
    have hz : (lineC z).toList.length = 5 := by simp [lineC]
    rw [e, e2, ← ih]
    rw [show (k + 1) * 5 + 2 = 5 + (k * 5 + 2) by omega, show (k + 1) * 5 + 3 = 5 + (k * 5 + 3) by omega, show (k + 1) * 5 + 4 = 5 + (k * 5 + 4) by omega]
    rw [List.set_append_right _ _ (by omega), List.set_append_right _ _ (by omega), List.set_append_right _ _ (by omega), hz]
    simp
/-- A line that gets its operand as a number. -/
def numX (F : List Nat) (ls : List LineL) (k : Nat) (x : LineL) : LineL := { x with arg := valO F (opdL ls k x), target := [], frm := [] }
def numAll (F : List Nat) (ls : List LineL) : List LineL := ls.zipIdx.map fun p => numX F ls p.2 p.1
def numK (F : List Nat) (ls : List LineL) (k : Nat) : List LineL := (numAll F ls).take k ++ ls.drop k
theorem numAll_len (F : List Nat) (ls : List LineL) : (numAll F ls).length = ls.length := by simp [numAll]
theorem numAll_get {F : List Nat} {ls : List LineL} {k : Nat} {x : LineL} (h : ls[k]? = some x) : (numAll F ls)[k]? = some (numX F ls k x) := by
  simp [numAll, List.getElem?_zipIdx, h]
theorem numK_len (F : List Nat) (ls : List LineL) {k : Nat} (hk : k ≤ ls.length) : (numK F ls k).length = ls.length := by
  simp [numK, numAll_len]; omega
theorem numK_at {F : List Nat} {ls : List LineL} {k : Nat} {x : LineL} (h : ls[k]? = some x) : (numK F ls k)[k]? = some x := by
  have hk := (List.getElem?_eq_some_iff.1 h).1
  have hl : ((numAll F ls).take k).length = k := by rw [List.length_take, numAll_len]; omega
  rw [numK, List.getElem?_append_right (by omega), hl, List.getElem?_drop]
  simpa using h
theorem numK_set {F : List Nat} {ls : List LineL} {k : Nat} {x : LineL} (h : ls[k]? = some x) : (numK F ls k).set k (numX F ls k x) = numK F ls (k + 1) := by
  have hk := (List.getElem?_eq_some_iff.1 h).1
  have hl : ((numAll F ls).take k).length = k := by rw [List.length_take, numAll_len]; omega
  have hg := numAll_get (F := F) h
  rw [numK, numK, List.set_append_right _ _ (by omega), hl, List.take_add_one, hg]
  obtain ⟨h1, h2⟩ := List.getElem?_eq_some_iff.1 h
  have e : ls.drop k = ls[k] :: ls.drop (k + 1) := List.drop_eq_getElem_cons h1
  rw [Nat.sub_self, e, List.set_cons_zero]
  simp
theorem numK_zero (F : List Nat) (ls : List LineL) : numK F ls 0 = ls := by simp [numK]
theorem numK_end (F : List Nat) (ls : List LineL) : numK F ls ls.length = numAll F ls := by
  unfold numK
  rw [List.take_of_length_le (by rw [numAll_len]; omega)]
  simp
end Go.Proofs.YtljeecocbcffcaaDoor
