/- The tables of chapter 05, and what its functions answer, in plain words. -/
import Derived.Test.YtaakhhnlmldegaaDoorP2
namespace Go.Proofs.YtaakhhnlmldegaaDoor
open Go.RowKit
set_option linter.unusedVariables false
set_option linter.unusedSimpArgs false

/-- A row of a table. -/
structure IRow where
  fn : Nat
  arg : Nat
  name : List UInt8
  takes : Nat
  leaves : Nat
deriving DecidableEq
/-- The functions: number, mnemonic, words taken and left. -/
def tabF : List IRow := [⟨0, 0, [106], 0, 0⟩,
  ⟨1, 0, [108, 100, 108, 112], 0, 1⟩,
  ⟨3, 0, [108, 100, 110, 108], 1, 1⟩,
  ⟨4, 0, [108, 100, 99], 0, 1⟩,
  ⟨5, 0, [108, 100, 110, 108, 112], 1, 1⟩,
  ⟨7, 0, [108, 100, 108], 0, 1⟩,
  ⟨8, 0, [97, 100, 99], 1, 1⟩,
  ⟨9, 0, [99, 97, 108, 108], 3, 1⟩,
  ⟨10, 0, [99, 106], 1, 0⟩,
  ⟨11, 0, [97, 106, 119], 0, 0⟩,
  ⟨12, 0, [101, 113, 99], 1, 1⟩,
  ⟨13, 0, [115, 116, 108], 1, 0⟩,
  ⟨14, 0, [115, 116, 110, 108], 2, 0⟩]
/-- The operations: code, mnemonic, words taken and left. -/
def tabO : List IRow := [⟨15, 0, [114, 101, 118], 2, 2⟩,
  ⟨15, 1, [108, 98], 1, 1⟩,
  ⟨15, 2, [98, 115, 117, 98], 2, 1⟩,
  ⟨15, 3, [101, 110, 100, 112], 1, 0⟩,
  ⟨15, 4, [100, 105, 102, 102], 2, 1⟩,
  ⟨15, 5, [97, 100, 100], 2, 1⟩,
  ⟨15, 6, [103, 99, 97, 108, 108], 1, 1⟩,
  ⟨15, 7, [105, 110], 3, 0⟩,
  ⟨15, 8, [112, 114, 111, 100], 2, 1⟩,
  ⟨15, 9, [103, 116], 2, 1⟩,
  ⟨15, 10, [119, 115, 117, 98], 2, 1⟩,
  ⟨15, 11, [111, 117, 116], 3, 0⟩,
  ⟨15, 12, [115, 117, 98], 2, 1⟩,
  ⟨15, 13, [115, 116, 97, 114, 116, 112], 2, 0⟩,
  ⟨15, 14, [111, 117, 116, 98, 121, 116, 101], 2, 0⟩,
  ⟨15, 15, [111, 117, 116, 119, 111, 114, 100], 2, 0⟩,
  ⟨15, 16, [115, 101, 116, 101, 114, 114], 0, 0⟩,
  ⟨15, 18, [114, 101, 115, 101, 116, 99, 104], 1, 1⟩,
  ⟨15, 19, [99, 115, 117, 98, 48], 2, 1⟩,
  ⟨15, 21, [115, 116, 111, 112, 112], 0, 0⟩,
  ⟨15, 22, [108, 97, 100, 100], 3, 1⟩,
  ⟨15, 25, [110, 111, 114, 109], 2, 3⟩,
  ⟨15, 26, [108, 100, 105, 118], 3, 2⟩,
  ⟨15, 27, [108, 100, 112, 105], 1, 1⟩,
  ⟨15, 29, [120, 100, 98, 108, 101], 1, 2⟩,
  ⟨15, 30, [108, 100, 112, 114, 105], 0, 1⟩,
  ⟨15, 31, [114, 101, 109], 2, 1⟩,
  ⟨15, 32, [114, 101, 116], 0, 0⟩,
  ⟨15, 33, [108, 101, 110, 100], 2, 0⟩,
  ⟨15, 34, [108, 100, 116, 105, 109, 101, 114], 0, 1⟩,
  ⟨15, 41, [116, 101, 115, 116, 101, 114, 114], 0, 1⟩,
  ⟨15, 43, [116, 105, 110], 1, 0⟩,
  ⟨15, 44, [100, 105, 118], 2, 1⟩,
  ⟨15, 46, [100, 105, 115, 116], 3, 1⟩,
  ⟨15, 47, [100, 105, 115, 99], 3, 1⟩,
  ⟨15, 48, [100, 105, 115, 115], 2, 1⟩,
  ⟨15, 49, [108, 109, 117, 108], 3, 2⟩,
  ⟨15, 50, [110, 111, 116], 1, 1⟩,
  ⟨15, 51, [120, 111, 114], 2, 1⟩,
  ⟨15, 52, [98, 99, 110, 116], 1, 1⟩,
  ⟨15, 53, [108, 115, 104, 114], 3, 2⟩,
  ⟨15, 54, [108, 115, 104, 108], 3, 2⟩,
  ⟨15, 55, [108, 115, 117, 109], 3, 2⟩,
  ⟨15, 56, [108, 115, 117, 98], 3, 1⟩,
  ⟨15, 57, [114, 117, 110, 112], 1, 0⟩,
  ⟨15, 58, [120, 119, 111, 114, 100], 2, 1⟩,
  ⟨15, 59, [115, 98], 2, 0⟩,
  ⟨15, 60, [103, 97, 106, 119], 1, 1⟩,
  ⟨15, 63, [119, 99, 110, 116], 1, 2⟩,
  ⟨15, 64, [115, 104, 114], 2, 1⟩,
  ⟨15, 65, [115, 104, 108], 2, 1⟩,
  ⟨15, 66, [109, 105, 110, 116], 0, 1⟩,
  ⟨15, 67, [97, 108, 116], 0, 0⟩,
  ⟨15, 68, [97, 108, 116, 119, 116], 0, 0⟩,
  ⟨15, 69, [97, 108, 116, 101, 110, 100], 0, 0⟩,
  ⟨15, 70, [97, 110, 100], 2, 1⟩,
  ⟨15, 71, [101, 110, 98, 116], 2, 1⟩,
  ⟨15, 72, [101, 110, 98, 99], 2, 1⟩,
  ⟨15, 73, [101, 110, 98, 115], 1, 1⟩,
  ⟨15, 74, [109, 111, 118, 101], 3, 0⟩,
  ⟨15, 75, [111, 114], 2, 1⟩,
  ⟨15, 76, [99, 115, 110, 103, 108], 2, 1⟩,
  ⟨15, 77, [99, 99, 110, 116, 49], 2, 1⟩,
  ⟨15, 78, [116, 97, 108, 116], 0, 0⟩,
  ⟨15, 79, [108, 100, 105, 102, 102], 3, 2⟩,
  ⟨15, 81, [116, 97, 108, 116, 119, 116], 0, 0⟩,
  ⟨15, 82, [115, 117, 109], 2, 1⟩,
  ⟨15, 83, [109, 117, 108], 2, 1⟩,
  ⟨15, 84, [115, 116, 116, 105, 109, 101, 114], 1, 0⟩,
  ⟨15, 85, [115, 116, 111, 112, 101, 114, 114], 0, 0⟩,
  ⟨15, 86, [99, 119, 111, 114, 100], 2, 1⟩,
  ⟨15, 87, [99, 108, 114, 104, 97, 108, 116, 101, 114, 114], 0, 0⟩,
  ⟨15, 88, [115, 101, 116, 104, 97, 108, 116, 101, 114, 114], 0, 0⟩,
  ⟨15, 89, [116, 101, 115, 116, 104, 97, 108, 116, 101, 114, 114], 0, 1⟩]
def irow0 : IRow := ⟨0, 0, [], 0, 0⟩
/-- The row of an instruction. -/
def findI (fn arg : Int) : Option IRow := if fn = 15 then tabO.find? fun r => (r.arg : Int) == arg else tabF.find? fun r => (r.fn : Int) == fn
/-- The row of a mnemonic. -/
def namedI (n : List UInt8) : Option IRow := (tabF ++ tabO).find? fun r => r.name == n
/-- An instruction's text. -/
def textI (fn arg : Int) : List UInt8 × Int :=
  match findI fn arg with
  | none => ([], 2)
  | some r => (if fn = 15 then r.name else r.name ++ 32 :: textL arg false, 0)
/-- What is read: function, operand, error. -/
noncomputable def readI (l : List UInt8) : Int × Int × Int :=
  match namedI (l.takeWhile (· != 32)) with
  | none => (0, 0, 50)
  | some r =>
    match l.dropWhile (· != 32) with
    | [] => if r.fn = 15 then (r.fn, r.arg, 0) else (0, 0, 5)
    | _ :: o => if r.fn = 15 then (0, 0, 5) else if (readF o).2 = 0 then (r.fn, (readF o).1, 0) else (0, 0, 5)
theorem tabF_len : tabF.length = 13 := rfl
theorem tabO_len : tabO.length = 74 := rfl
theorem names_nodup : ((tabF ++ tabO).map (·.name)).Nodup := by decide +kernel
theorem fns_nodup : (tabF.map (·.fn)).Nodup := by decide
theorem args_nodup : (tabO.map (·.arg)).Nodup := by decide +kernel
theorem tabF_ok : ∀ r ∈ tabF, r.fn < 15 ∧ r.arg = 0 ∧ r.name ≠ [] ∧ (∀ c ∈ r.name, c ≠ 32) ∧ r.name.length ≤ 12 ∧ r.takes ≤ 3 ∧ r.leaves ≤ 3 ∧ r.leaves ≤ r.takes + 1 := by decide +kernel
theorem tabO_ok : ∀ r ∈ tabO, r.fn = 15 ∧ r.arg < 256 ∧ r.name ≠ [] ∧ (∀ c ∈ r.name, c ≠ 32) ∧ r.name.length ≤ 12 ∧ r.takes ≤ 3 ∧ r.leaves ≤ 3 ∧ r.leaves ≤ r.takes + 1 := by decide +kernel
theorem takeWhile_all {l m : List UInt8} (h : ∀ c ∈ l, c ≠ 32) : (l ++ 32 :: m).takeWhile (· != 32) = l ∧ (l ++ 32 :: m).dropWhile (· != 32) = 32 :: m := by
  induction l with
  | nil => simp
  | cons c l ih =>
    have hc : (c != 32) = true := by simpa using h c (by simp)
    obtain ⟨h1, h2⟩ := ih fun c hc => h c (by simp [hc])
    simp [hc, h1, h2]
theorem takeWhile_none {l : List UInt8} (h : ∀ c ∈ l, c ≠ 32) : l.takeWhile (· != 32) = l ∧ l.dropWhile (· != 32) = [] := by
  induction l with
  | nil => simp
  | cons c l ih =>
    have hc : (c != 32) = true := by simpa using h c (by simp)
    obtain ⟨h1, h2⟩ := ih fun c hc => h c (by simp [hc])
    simp [hc, h1, h2]
theorem find_nodup {α β : Type} [BEq β] [LawfulBEq β] (f : α → β) : ∀ (l : List α), (l.map f).Nodup → ∀ x ∈ l, l.find? (fun y => f y == f x) = some x
  | [], _, x, h => by cases h
  | y :: l, hn, x, h => by
    rw [List.map_cons, List.nodup_cons] at hn
    rw [List.find?_cons]
    by_cases he : f y = f x
    · rcases List.mem_cons.1 h with rfl | h2
      · simp
      · exact absurd (he ▸ List.mem_map_of_mem h2) hn.1
    · have hne : (f y == f x) = false := by simpa using he
      rw [hne]
      rcases List.mem_cons.1 h with rfl | h2
      · exact absurd rfl he
      · exact find_nodup f l hn.2 x h2
theorem named_of {r : IRow} (h : r ∈ tabF ++ tabO) : namedI r.name = some r := find_nodup (fun q : IRow => q.name) (tabF ++ tabO) names_nodup r h
theorem findI_some {fn arg : Int} {r : IRow} (h : findI fn arg = some r) : r ∈ tabF ++ tabO ∧ ((fn = 15 ∧ r.fn = 15 ∧ (r.arg : Int) = arg) ∨ (fn ≠ 15 ∧ (r.fn : Int) = fn ∧ r.arg = 0)) := by
  unfold findI at h
  split at h
  · rename_i hf
    have hm := List.mem_of_find?_eq_some h
    have hp := List.find?_some h
    simp only [beq_iff_eq] at hp
    exact ⟨List.mem_append_right _ hm, .inl ⟨hf, (tabO_ok r hm).1, hp⟩⟩
  · rename_i hf
    have hm := List.mem_of_find?_eq_some h
    have hp := List.find?_some h
    simp only [beq_iff_eq] at hp
    exact ⟨List.mem_append_left _ hm, .inr ⟨hf, hp, (tabF_ok r hm).2.1⟩⟩
theorem row_ok {r : IRow} (h : r ∈ tabF ++ tabO) : r.name ≠ [] ∧ (∀ c ∈ r.name, c ≠ 32) ∧ r.name.length ≤ 12 := by
  rcases List.mem_append.1 h with h | h
  · have := tabF_ok r h; exact ⟨this.2.2.1, this.2.2.2.1, this.2.2.2.2.1⟩
  · have := tabO_ok r h; exact ⟨this.2.2.1, this.2.2.2.1, this.2.2.2.2.1⟩
/-- What is written is read back. -/
theorem read_text_I {fn arg : Int} (ha : is32 arg) (h : (textI fn arg).2 = 0) : readI (textI fn arg).1 = (fn, arg, 0) := by
  unfold textI at h ⊢
  cases hf : findI fn arg with
  | none => rw [hf] at h; cases h
  | some r =>
    obtain ⟨hm, hc⟩ := findI_some hf
    obtain ⟨h1, h2, h3⟩ := row_ok hm
    rcases hc with ⟨rfl, e1, e2⟩ | ⟨h15, e1, e2⟩
    · simp only [if_true]
      obtain ⟨t1, t2⟩ := takeWhile_none h2
      rw [readI, t1, named_of hm]
      simp only [t2, e1, if_true, e2]
      rfl
    · simp only [if_neg h15]
      obtain ⟨t1, t2⟩ := takeWhile_all (m := textL arg false) h2
      rw [readI, t1, named_of hm]
      have hn : ¬ r.fn = 15 := fun h => h15 (by rw [← e1, h]; rfl)
      simp only [t2, if_neg hn, readF_text ha, if_true, e1]
/-- Different instructions have different texts. -/
theorem text_inj_I {f a g b : Int} (ha : is32 a) (hb : is32 b) (h1 : (textI f a).2 = 0) (h2 : (textI g b).2 = 0) (h : (textI f a).1 = (textI g b).1) : f = g ∧ a = b := by
  have e1 := read_text_I ha h1
  rw [h, read_text_I hb h2] at e1
  injection e1 with e1 e2
  injection e2 with e2 _
  exact ⟨e1.symm, e2.symm⟩
end Go.Proofs.YtaakhhnlmldegaaDoor
