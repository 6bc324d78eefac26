/- Texts that belong together, joined: what each one holds is told ahead of it. -/
import Derived.Test.YtbefmlioampgcaaGreatDoorHK3
import Derived.Maps.OwnSet
import Derived.Test.YtbefmlioampgcaaGreatDoorHA2
set_option linter.unusedVariables false
set_option linter.unusedSimpArgs false
/- The map from labels to lines, in plain words. -/
namespace Go.Proofs.YtbefmlioampgcaaGreatDoor
open Go.Maps

theorem snocInd {α : Type} {P : List α → Prop} (h0 : P []) (h : ∀ l x, P l → P (l ++ [x])) (l : List α) : P l := by
  rw [← List.reverse_reverse l]
  induction l.reverse with
  | nil => exact h0
  | cons x r ih => rw [List.reverse_cons]; exact h _ _ ih
theorem key_str (n : List UInt8) : WideAt.IsKeyLit (.string n) := trivial
/-- Where each label stands. -/
def mapL (l : List LineL) : DataW Unit := l.zipIdx.foldl (fun D p => if p.1.label.isEmpty then D else D.put (.string p.1.label) (.lit (.int .i64 p.2))) (.map [])
theorem mapL_snoc (l : List LineL) (x : LineL) : mapL (l ++ [x]) = if x.label.isEmpty then mapL l else (mapL l).put (.string x.label) (.lit (.int .i64 l.length)) := by
  simp [mapL, List.zipIdx_append, List.foldl_append]
theorem atL_snoc (l : List LineL) (x : LineL) (n : List UInt8) : atL (l ++ [x]) n = (atL l n).or (if x.label == n then some l.length else none) := by
  unfold atL
  rw [List.findIdx?_append]
  cases h : (x.label == n) <;> simp [List.findIdx?_cons, h]
theorem mapL_isMap (l : List LineL) : IsMap (mapL l) := by
  refine snocInd (P := fun l => IsMap (mapL l)) isMap_empty (fun l x ih => ?_) l
  rw [mapL_snoc]; split
  · exact ih
  · exact ih.put _ _
theorem mapL_has (n : List UInt8) (l : List LineL) : has (mapL l) (.string n) = ((atL l n).isSome && !n.isEmpty) := by
  refine snocInd (P := fun l => has (mapL l) (.string n) = ((atL l n).isSome && !n.isEmpty)) rfl (fun l x ih => ?_) l
  rw [mapL_snoc, atL_snoc]
  by_cases hx : x.label.isEmpty = true
  · rw [if_pos hx, ih]
    by_cases hn : x.label = n
    · subst hn; simp [hx]
    · simp [hn]
  · rw [if_neg hx]
    by_cases hn : x.label = n
    · subst hn
      rw [has_put_same (mapL_isMap l) (key_str x.label)]
      simp [hx]
    · rw [has_put_other (by intro e; injection e with e; exact hn e.symm), ih]
      simp [hn]
/-- No label stands twice. -/
def Dist (l : List LineL) : Prop := ∀ (j : Nat) (x : LineL), l[j]? = some x → x.label ≠ [] → atL l x.label = some j
theorem Dist.nil : Dist [] := fun j x h => by simp at h
theorem Dist.init {l : List LineL} {x : LineL} (h : Dist (l ++ [x])) : Dist l := by
  intro j y hj hy
  have hl : j < l.length := by obtain ⟨h, _⟩ := List.getElem?_eq_some_iff.1 hj; exact h
  have h1 := h j y (by rw [List.getElem?_append_left hl]; exact hj) hy
  rw [atL_snoc] at h1
  cases ha : atL l y.label with
  | some k => rw [ha] at h1; simpa using h1
  | none =>
    rw [ha] at h1
    simp at h1
    omega
theorem Dist.snoc {l : List LineL} {x : LineL} (h : Dist l) (hx : x.label ≠ [] → atL l x.label = none) : Dist (l ++ [x]) := by
  intro j y hj hy
  rcases Nat.lt_or_ge j l.length with hl | hl
  · rw [List.getElem?_append_left hl] at hj
    rw [atL_snoc, h j y hj hy]; rfl
  · have hj2 : j = l.length := by
      obtain ⟨h, _⟩ := List.getElem?_eq_some_iff.1 hj
      simp at h; omega
    subst hj2
    simp at hj
    subst hj
    rw [atL_snoc, hx hy]; simp
end Go.Proofs.YtbefmlioampgcaaGreatDoor

/- The error of lines, as three loops find it. -/
namespace Go.Proofs.YtbefmlioampgcaaGreatDoor

theorem check_two {ls : List LineL} {k : Nat} {x : LineL} (h : ls[k]? = some x) (hv : validB x = false) : checkE ls = 2 := by
  have : ls.all validB = false := by
    rw [List.all_eq_false]
    exact ⟨x, List.mem_of_getElem? h, by simp [hv]⟩
  unfold checkE
  rw [this]; rfl
theorem check_sixty {ls : List LineL} {k : Nat} {x : LineL} (ha : ls.all validB = true) (h : ls[k]? = some x) (hv : okL ls k x = false) : checkE ls = 60 := by
  have : (ls.zipIdx.all fun p => okL ls p.2 p.1) = false := by
    rw [List.all_eq_false]
    refine ⟨(x, k), ?_, by simp [hv]⟩
    exact List.mem_of_getElem? (i := k) (by simp [List.getElem?_zipIdx, h])
  unfold checkE
  rw [ha, this]; rfl
theorem check_zero {ls : List LineL} (ha : ls.all validB = true) (h : ∀ (k : Nat) (x : LineL), ls[k]? = some x → okL ls k x = true) : checkE ls = 0 := by
  have : (ls.zipIdx.all fun p => okL ls p.2 p.1) = true := by
    rw [List.all_eq_true]
    rintro ⟨x, k⟩ hm
    obtain ⟨i, hi⟩ := List.getElem?_of_mem hm
    rw [List.getElem?_zipIdx] at hi
    cases hg : ls[i]? with
    | none => simp [hg] at hi
    | some y =>
      simp [hg] at hi
      obtain ⟨rfl, rfl⟩ := hi
      exact h _ _ hg
  unfold checkE
  rw [ha, this]; rfl
/-- A label that stands already: the lines are in error. -/
theorem check_again {ls : List LineL} {k : Nat} {x : LineL} (ha : ls.all validB = true) (h : ls[k]? = some x) (hx : x.label ≠ []) (hs : (atL (ls.take k) x.label).isSome = true) : checkE ls = 60 := by
  refine check_sixty ha h ?_
  obtain ⟨j, hj⟩ := Option.isSome_iff_exists.1 hs
  have hl := atL_lt hj
  have e : atL ls x.label = some j := by
    conv => lhs; rw [← List.take_append_drop k ls]
    unfold atL at hj ⊢
    rw [List.findIdx?_append, hj]; rfl
  have hk : k < ls.length := by obtain ⟨h, _⟩ := List.getElem?_eq_some_iff.1 h; exact h
  have hne : j ≠ k := by simp at hl; omega
  have hx2 : x.label.isEmpty = false := by simpa using hx
  simp [okL, hx2, e, hne]
end Go.Proofs.YtbefmlioampgcaaGreatDoor

/- A slice of lines. -/
namespace Go.Proofs.YtbefmlioampgcaaGreatDoor
open Go.RowKit
set_option linter.unusedVariables false
set_option linter.unusedSimpArgs false

/-- The cells of lines. -/
def linesL (ls : List LineL) : List Value := ls.flatMap fun x => (lineC x).toList
theorem linesL_len (ls : List LineL) : (linesL ls).length = 5 * ls.length := by
  induction ls with
  | nil => rfl
  | cons x l ih => rw [linesL, List.flatMap_cons, List.length_append, ← linesL, ih]; simp [lineC]; omega
theorem linesL_get {ls : List LineL} {k : Nat} {x : LineL} (h : ls[k]? = some x) {j : Nat} (hj : j < 5) : (linesL ls)[5 * k + j]? = (lineC x).toList[j]? := by
  induction ls generalizing k with
  | nil => simp at h
  | cons y l ih =>
    rw [linesL, List.flatMap_cons, ← linesL]
    have hy : (lineC y).toList.length = 5 := by simp [lineC]
    cases k with
    | zero =>
      simp at h; subst h
      rw [List.getElem?_append_left (by rw [hy]; omega)]; simp
    | succ k =>
      rw [List.getElem?_append_right (by rw [hy]; omega), hy]
      have e : 5 * (k + 1) + j - 5 = 5 * k + j := by omega
      rw [e]
      exact ih (by simpa using h)
theorem linesL_at {ls : List LineL} {k : Nat} {x : LineL} (h : ls[k]? = some x) :
    (linesL ls)[5 * k]? = some (.string (strB x.label)) ∧ (linesL ls)[5 * k + 1]? = some (.int .u8 x.fn) ∧ (linesL ls)[5 * k + 2]? = some (.int .i32 x.arg) ∧ (linesL ls)[5 * k + 3]? = some (.string (strB x.target)) ∧ (linesL ls)[5 * k + 4]? = some (.string (strB x.frm)) :=
  ⟨linesL_get h (j := 0) (by omega), linesL_get h (j := 1) (by omega), linesL_get h (j := 2) (by omega), linesL_get h (j := 3) (by omega), linesL_get h (j := 4) (by omega)⟩
end Go.Proofs.YtbefmlioampgcaaGreatDoor
