/- Numbered lines: the law AsmNumbers in plain words. -/
import Derived.Test.YtjnngeakdclkbaaDoorHK8
namespace Go.Proofs.YtjnngeakdclkbaaDoor
open Go.RowKit
set_option linter.unusedSimpArgs false
set_option linter.unusedVariables false

theorem check_parts {ls : List LineL} (h : checkE ls = 0) : ls.all validB = true ∧ ∀ (k : Nat) (x : LineL), ls[k]? = some x → okL ls k x = true := by
  unfold checkE at h
  split at h
  · rename_i hv
    split at h
    · rename_i ho
      refine ⟨hv, fun k x hx => ?_⟩
      have := List.all_eq_true.1 ho (x, k) (by rw [List.mem_iff_getElem?]; exact ⟨k, by simp [List.getElem?_zipIdx, hx]⟩)
      exact this
    · cases h
  · cases h
theorem findI_fn {fn : Int} (a b : Int) (h : fn ≠ 15) : findI fn a = findI fn b := by unfold findI; rw [if_neg h, if_neg h]
theorem num_valid {x : LineL} {v : Int} (h : validB x = true) (hv : x.target.isEmpty = true → v = x.arg) : validB { x with arg := v, target := [], frm := [] } = true := by
  unfold validB at h ⊢
  simp only [Bool.and_eq_true] at h ⊢
  refine ⟨h.1, ?_⟩
  rw [if_pos (by rfl)]
  simp only [List.isEmpty_nil, Bool.true_and]
  by_cases ht : x.target.isEmpty = true
  · rw [if_pos ht] at h
    simp only [Bool.and_eq_true] at h
    rw [hv ht]; exact h.2.2
  · rw [if_neg ht] at h
    have h2 := h.2
    simp only [Bool.and_eq_true, decide_eq_true_eq, Bool.not_eq_true', beq_eq_false_iff_ne] at h2
    obtain ⟨⟨⟨⟨-, h3⟩, h15⟩, hn2⟩, hn6⟩ := h2
    obtain ⟨r, hr, -⟩ := findI_any x.fn h15 hn2 hn6
    rw [findI_fn v 0 (by omega), hr]; rfl
theorem atL_map {ls ms : List LineL} (hl : ls.map (·.label) = ms.map (·.label)) (n : List UInt8) : atL ls n = atL ms n := by
  have key : ∀ ls : List LineL, atL ls n = (ls.map (·.label)).findIdx? (· == n) := by
    intro ls
    unfold atL
    rw [List.findIdx?_map]; rfl
  rw [key, key, hl]
theorem num_labels (F : List Nat) (ls : List LineL) : (numAll F ls).map (·.label) = ls.map (·.label) := by
  apply List.ext_getElem?
  intro i
  rw [List.getElem?_map, List.getElem?_map]
  cases h : ls[i]? with
  | none => rw [List.getElem?_eq_none (by rw [numAll_len]; exact List.getElem?_eq_none_iff.1 h)]
  | some x => rw [numAll_get h]; rfl
theorem num_inv {F : List Nat} {ls : List LineL} {k : Nat} {y : LineL} (h : (numAll F ls)[k]? = some y) : ∃ x, ls[k]? = some x ∧ y = numX F ls k x := by
  have hk := (List.getElem?_eq_some_iff.1 h).1
  rw [numAll_len] at hk
  have hx : ls[k]? = some ls[k] := List.getElem?_eq_getElem hk
  rw [numAll_get hx] at h
  exact ⟨_, hx, (Option.some.inj h).symm⟩
theorem val_empty {F : List Nat} {ls : List LineL} {k : Nat} {x : LineL} (h : x.target.isEmpty = true) : valO F (opdL ls k x) = x.arg := by
  unfold opdL; rw [if_pos h]; rfl
theorem num_check {F : List Nat} {ls : List LineL} (he : checkE ls = 0) : checkE (numAll F ls) = 0 := by
  obtain ⟨hv, ho⟩ := check_parts he
  have hat := atL_map (num_labels F ls)
  refine check_zero ?_ ?_
  · rw [List.all_eq_true]
    intro y hy
    obtain ⟨k, hk⟩ := List.getElem?_of_mem hy
    obtain ⟨x, hx, rfl⟩ := num_inv hk
    exact num_valid (List.all_eq_true.1 hv x (List.mem_of_getElem? hx)) val_empty
  · intro k y hy
    obtain ⟨x, hx, rfl⟩ := num_inv hy
    have := ho k x hx
    unfold okL at this ⊢
    simp only [Bool.and_eq_true] at this
    rw [hat]
    simp only [numX, List.isEmpty_nil, Bool.true_or, Bool.and_true]
    exact this.1.1
theorem num_opds {F : List Nat} {ls : List LineL} : opds (numAll F ls) = (opds ls).map fun o => .inl (valO F o) := by
  apply List.ext_getElem?
  intro i
  rw [List.getElem?_map]
  cases h : ls[i]? with
  | none => rw [List.getElem?_eq_none (by rw [opds_len, numAll_len]; exact List.getElem?_eq_none_iff.1 h), List.getElem?_eq_none (by rw [opds_len]; exact List.getElem?_eq_none_iff.1 h)]; rfl
  | some x =>
    rw [opds_get (numAll_get h), opds_get h]
    simp [numX, opdL]
theorem num_fix {ls : List LineL} (hf : Fit (opds ls)) (hf2 : Fit (opds (numAll (fixL (opds ls)) ls))) : fixL (opds (numAll (fixL (opds ls)) ls)) = fixL (opds ls) := by
  obtain ⟨h1, -, -⟩ := fixL_fix hf2
  obtain ⟨h2, -, -⟩ := fixL_fix hf
  rw [← h1, ← h2, h2]
  conv => lhs; rw [num_opds]
  conv => rhs; rw [← h2]
  simp [needL, valO]
theorem num_code {ls : List LineL} (hf : Fit (opds ls)) (hf2 : Fit (opds (numAll (fixL (opds ls)) ls))) : codeL (numAll (fixL (opds ls)) ls) = codeL ls := by
  unfold codeL
  rw [num_fix hf hf2]
  rw [List.flatMap_def, List.flatMap_def]
  congr 1
  apply List.ext_getElem?
  intro i
  rw [List.getElem?_map, List.getElem?_map, List.getElem?_zipIdx, List.getElem?_zipIdx]
  cases h : ls[i]? with
  | none => rw [List.getElem?_eq_none (by rw [numAll_len]; exact List.getElem?_eq_none_iff.1 h)]; rfl
  | some x =>
    rw [numAll_get h]
    simp only [Option.map_some, Nat.zero_add]
    have e : valO (fixL (opds ls)) (opdL (numAll (fixL (opds ls)) ls) i (numX (fixL (opds ls)) ls i x)) = valO (fixL (opds ls)) (opdL ls i x) := val_empty rfl
    rw [e]; rfl
theorem num_ok {F : List Nat} {ls : List LineL} (hf : Fit (opds ls)) (h8 : ∀ i, F.getD i 0 ≤ 8) (hok : ∀ x ∈ ls, LOk x) : ∀ x ∈ numAll F ls, LOk x := by
  intro y hy
  obtain ⟨k, hk⟩ := List.getElem?_of_mem hy
  obtain ⟨x, hx, rfl⟩ := num_inv hk
  have h := hok x (List.mem_of_getElem? hx)
  exact ⟨h.fn, val_is32 hf h8 (opds_get hx), h.label, by simp [numX], by simp [numX]⟩
end Go.Proofs.YtjnngeakdclkbaaDoor
