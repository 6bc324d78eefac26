/- Renamed lines: the law AsmNames in plain words. -/
import Derived.Test.YtjnngeakdclkbaaDoorHBC
namespace Go.Proofs.YtjnngeakdclkbaaDoor
open Go.RowKit
set_option linter.unusedSimpArgs false
set_option linter.unusedVariables false

def renS (l : List UInt8) : List UInt8 := if l.isEmpty || decide (32 ≤ l.length) then l else 113 :: l
def renX (x : LineL) : LineL := { x with label := renS x.label, target := renS x.target, frm := renS x.frm }
def shortX (x : LineL) : Prop := x.label.length < 32 ∧ x.target.length < 32 ∧ x.frm.length < 32
theorem renS_short {l : List UInt8} (h : l.length < 32) : renS l = if l.isEmpty then [] else 113 :: l := by
  unfold renS
  cases l with
  | nil => rfl
  | cons c r => rw [if_neg (by simp at h ⊢; omega)]; rfl
theorem renS_empty {l : List UInt8} (h : l.length < 32) : (renS l).isEmpty = l.isEmpty := by
  rw [renS_short h]; cases l <;> rfl
theorem renS_label {l : List UInt8} (h : l.length < 32) (hl : labelB l = true) : labelB (renS l) = true := by
  rw [renS_short h]
  cases l with
  | nil => cases hl
  | cons c r =>
    simp only [labelB, Bool.and_eq_true, decide_eq_true_eq] at hl
    obtain ⟨⟨h1, h2⟩, h3⟩ := hl
    have h113 : letterB 113 = true := by decide
    simp only [List.isEmpty_cons, Bool.false_eq_true, if_false, labelB, h113, Bool.true_and, List.all_cons, h1, Bool.true_or, h2]
    simp at h ⊢; omega
theorem renS_inj {a b : List UInt8} (ha : a.length < 32) (hb : b.length < 32) (h : renS a = renS b) : a = b := by
  rw [renS_short ha, renS_short hb] at h
  cases a <;> cases b <;> simp_all
theorem ren_valid {x : LineL} (hs : shortX x) (h : validB x = true) : validB (renX x) = true := by
  obtain ⟨s1, s2, s3⟩ := hs
  unfold validB at h ⊢
  simp only [renX, renS_empty s1, renS_empty s2, renS_empty s3]
  simp only [Bool.and_eq_true, Bool.or_eq_true] at h ⊢
  refine ⟨?_, ?_⟩
  · rcases h.1 with h1 | h1
    · exact .inl h1
    · exact .inr (renS_label s1 h1)
  · by_cases ht : x.target.isEmpty = true
    · have h2 := h.2
      rw [if_pos ht] at h2 ⊢
      exact h2
    · have h2 := h.2
      rw [if_neg ht] at h2 ⊢
      simp only [Bool.and_eq_true, Bool.or_eq_true] at h2 ⊢
      obtain ⟨⟨⟨⟨⟨a1, a2⟩, a3⟩, a4⟩, a5⟩, a6⟩ := h2
      refine ⟨⟨⟨⟨⟨renS_label s2 a1, ?_⟩, a3⟩, a4⟩, a5⟩, a6⟩
      rcases a2 with h1 | h1
      · exact .inl h1
      · exact .inr (renS_label s3 h1)
theorem ren_at {ls : List LineL} (hs : ∀ x ∈ ls, shortX x) {n : List UInt8} (hn : n.length < 32) : atL (ls.map renX) (renS n) = atL ls n := by
  unfold atL
  rw [List.findIdx?_map]
  have key : ∀ ls : List LineL, (∀ x ∈ ls, shortX x) → ls.findIdx? ((fun x => x.label == renS n) ∘ renX) = ls.findIdx? fun x => x.label == n := by
    intro ls
    induction ls with
    | nil => intro _; rfl
    | cons x r ih =>
      intro h
      have hx := (h x (by simp)).1
      have e : ((fun x : LineL => x.label == renS n) ∘ renX) x = (x.label == n) := by
        simp only [Function.comp, renX]
        rw [Bool.eq_iff_iff, beq_iff_eq, beq_iff_eq]
        exact ⟨renS_inj hx hn, fun h => by rw [h]⟩
      rw [List.findIdx?_cons, List.findIdx?_cons, e, ih fun y hy => h y (by simp [hy])]
  exact key ls hs
theorem ren_get {ls : List LineL} {k : Nat} {y : LineL} (h : (ls.map renX)[k]? = some y) : ∃ x, ls[k]? = some x ∧ y = renX x := by
  rw [List.getElem?_map, Option.map_eq_some_iff] at h
  obtain ⟨x, h1, h2⟩ := h
  exact ⟨x, h1, h2.symm⟩
theorem ren_ok {ls : List LineL} (hs : ∀ x ∈ ls, shortX x) {k : Nat} {x : LineL} (hx : ls[k]? = some x) : okL (ls.map renX) k (renX x) = okL ls k x := by
  obtain ⟨s1, s2, s3⟩ := hs x (List.mem_of_getElem? hx)
  unfold okL
  simp only [renX, renS_empty s1, renS_empty s2, renS_empty s3, ren_at hs s1, ren_at hs s2, ren_at hs s3]
theorem ren_check {ls : List LineL} (hs : ∀ x ∈ ls, shortX x) (hv : checkE ls ≠ 2) : checkE (ls.map renX) = checkE ls := by
  have ha : ls.all validB = true := by
    by_cases h : ls.all validB = true
    · exact h
    · exfalso; apply hv; unfold checkE; rw [if_neg h]
  have hb : (ls.map renX).all validB = true := by
    rw [List.all_eq_true]
    intro y hy
    obtain ⟨x, hx, rfl⟩ := List.mem_map.1 hy
    exact ren_valid (hs x hx) (List.all_eq_true.1 ha x hx)
  by_cases ho : ∀ (k : Nat) (x : LineL), ls[k]? = some x → okL ls k x = true
  · rw [check_zero ha ho, check_zero hb]
    intro k y hy
    obtain ⟨x, hx, rfl⟩ := ren_get hy
    rw [ren_ok hs hx]; exact ho k x hx
  · obtain ⟨k, hk⟩ := Classical.not_forall.1 ho
    obtain ⟨x, hx⟩ := Classical.not_forall.1 hk
    obtain ⟨h1, h2⟩ := Classical.not_imp.1 hx
    have h2 : okL ls k x = false := by simpa using h2
    rw [check_sixty ha h1 h2, check_sixty hb (by rw [List.getElem?_map, h1]; rfl) (by rw [ren_ok hs h1]; exact h2)]
theorem ren_opd {ls : List LineL} (hs : ∀ x ∈ ls, shortX x) {k : Nat} {x : LineL} (hx : ls[k]? = some x) : opdL (ls.map renX) k (renX x) = opdL ls k x := by
  obtain ⟨s1, s2, s3⟩ := hs x (List.mem_of_getElem? hx)
  unfold opdL
  simp only [renX, renS_empty s2, renS_empty s3, ren_at hs s2, ren_at hs s3]
theorem ren_opds {ls : List LineL} (hs : ∀ x ∈ ls, shortX x) : opds (ls.map renX) = opds ls := by
  apply List.ext_getElem?
  intro i
  cases h : ls[i]? with
  | none => rw [List.getElem?_eq_none (by rw [opds_len, List.length_map]; exact List.getElem?_eq_none_iff.1 h), List.getElem?_eq_none (by rw [opds_len]; exact List.getElem?_eq_none_iff.1 h)]
  | some x => rw [opds_get (ls := ls.map renX) (x := renX x) (by rw [List.getElem?_map, h]; rfl), opds_get h, ren_opd hs h]
theorem ren_code {ls : List LineL} (hs : ∀ x ∈ ls, shortX x) : codeL (ls.map renX) = codeL ls := by
  unfold codeL
  rw [ren_opds hs, List.flatMap_def, List.flatMap_def]
  congr 1
  apply List.ext_getElem?
  intro i
  rw [List.getElem?_map, List.getElem?_map, List.getElem?_zipIdx, List.getElem?_zipIdx, List.getElem?_map]
  cases h : ls[i]? with
  | none => rfl
  | some x =>
    simp only [Option.map_some, Nat.zero_add]
    rw [ren_opd hs h]; rfl
theorem ren_ok2 {x : LineL} (h : LOk x) : LOk (renX x) := by
  have key : ∀ l : List UInt8, l.length ≤ 281474976710656 → (renS l).length ≤ 281474976710656 := by
    intro l hl
    unfold renS
    split
    · exact hl
    · rename_i h
      simp at h
      simp; omega
  exact ⟨h.fn, h.arg, key _ h.label, key _ h.target, key _ h.frm⟩
def renK (ls : List LineL) (k : Nat) : List LineL := (ls.map renX).take k ++ ls.drop k
theorem renK_at {ls : List LineL} {k : Nat} {x : LineL} (h : ls[k]? = some x) : (renK ls k)[k]? = some x := by
  have hk := (List.getElem?_eq_some_iff.1 h).1
  have hl : ((ls.map renX).take k).length = k := by rw [List.length_take, List.length_map]; omega
  rw [renK, List.getElem?_append_right (by omega), hl, List.getElem?_drop]
  simpa using h
theorem renK_set {ls : List LineL} {k : Nat} {x : LineL} (h : ls[k]? = some x) : (renK ls k).set k (renX x) = renK ls (k + 1) := by
  have hk := (List.getElem?_eq_some_iff.1 h).1
  have hl : ((ls.map renX).take k).length = k := by rw [List.length_take, List.length_map]; omega
  have hg : (ls.map renX)[k]? = some (renX x) := by rw [List.getElem?_map, h]; rfl
  rw [renK, renK, List.set_append_right _ _ (by omega), hl, List.take_add_one, hg]
  obtain ⟨h1, h2⟩ := List.getElem?_eq_some_iff.1 h
  have e : ls.drop k = ls[k] :: ls.drop (k + 1) := List.drop_eq_getElem_cons h1
  rw [Nat.sub_self, e, List.set_cons_zero]
  simp
theorem renK_zero (ls : List LineL) : renK ls 0 = ls := by simp [renK]
theorem renK_end (ls : List LineL) : renK ls ls.length = ls.map renX := by
  unfold renK
  rw [List.take_of_length_le (by rw [List.length_map]; omega)]
  simp
/-- A line of which the names are stored anew. -/
theorem linesL_set3 : ∀ (ls : List LineL) (k : Nat) (x y : LineL), ls[k]? = some x → y.fn = x.fn → y.arg = x.arg →
    (((linesL ls).set (k * 5) (.string (strB y.label))).set (k * 5 + 3) (.string (strB y.target))).set (k * 5 + 4) (.string (strB y.frm)) = linesL (ls.set k y)
  | [], k, x, y, h, _, _ => by simp at h
  | z :: r, 0, x, y, h, h1, h2 => by
    simp at h; subst h
    simp [linesL, lineC, h1, h2]
  | z :: r, k + 1, x, y, h, h1, h2 => by
    have ih := linesL_set3 r k x y (by simpa using h) h1 h2
    have e : linesL (z :: r) = (lineC z).toList ++ linesL r := by simp [linesL]
    have e2 : linesL ((z :: r).set (k + 1) y) = (lineC z).toList ++ linesL (r.set k y) := by simp [linesL]
    have hz : (lineC z).toList.length = 5 := by simp [lineC]
    rw [e, e2, ← ih]
    rw [show (k + 1) * 5 = 5 + k * 5 by omega, show 5 + k * 5 + 3 = 5 + (k * 5 + 3) by omega, show 5 + k * 5 + 4 = 5 + (k * 5 + 4) by omega]
    rw [List.set_append_right _ _ (by omega), List.set_append_right _ _ (by omega), List.set_append_right _ _ (by omega), hz]
    simp
end Go.Proofs.YtjnngeakdclkbaaDoor
