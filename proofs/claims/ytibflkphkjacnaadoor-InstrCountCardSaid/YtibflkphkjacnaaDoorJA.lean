/- Plain words on the law InstrCount: what is counted, and how many different mnemonics there are. -/
import Derived.Test.YtibflkphkjacnaaDoorQ1
import Derived.Maps.OwnSet
namespace Go.Proofs.YtibflkphkjacnaaDoor
open Go.RowKit
set_option linter.unusedVariables false
set_option linter.unusedSimpArgs false

def inner (f : Nat) (j : Nat) : List Lit := (List.range j).filterMap fun (c : Nat) => (findI (f : Int) (c : Int)).map fun r => Lit.string r.name
def RK : Nat → List Lit
  | 0 => []
  | i + 1 => RK i ++ inner i 256
def cF (i : Nat) : Nat := (List.range i).countP fun (f : Nat) => decide (f ≠ 15) && (findI (f : Int) 0).isSome
def cO (j : Nat) : Nat := (List.range j).countP fun c => (findI 15 ((c : Nat) : Int)).isSome
def oB (i : Nat) : Nat := if 15 < i then 74 else 0
/-- The functions counted, within the row i. -/
def iF (i j : Nat) : Nat := cF i + if 0 < j ∧ i ≠ 15 ∧ (findI (i : Int) 0).isSome then 1 else 0
def iO (i j : Nat) : Nat := if 15 < i then 74 else if i = 15 then cO j else 0

theorem findI_fn {f : Nat} (h : f ≠ 15) (c d : Int) : findI (f : Int) c = findI (f : Int) d := by
  have h' : ¬ (f : Int) = 15 := by omega
  unfold findI
  rw [if_neg h', if_neg h']
theorem inner_none {f j : Nat} (h : findI (f : Int) (j : Int) = none) : inner f (j + 1) = inner f j := by
  simp [inner, List.range_succ, List.filterMap_append, h]
theorem inner_some {f j : Nat} {r : IRow} (h : findI (f : Int) (j : Int) = some r) : inner f (j + 1) = inner f j ++ [.string r.name] := by
  simp [inner, List.range_succ, List.filterMap_append, h]
theorem iF_zero (i : Nat) : iF i 0 = cF i := by simp [iF]
theorem iF_end (i : Nat) : iF i 256 = cF (i + 1) := by
  unfold iF cF
  rw [List.range_succ, List.countP_append]
  congr 1
  simp only [List.countP_cons, List.countP_nil]
  by_cases h : i ≠ 15 ∧ (findI (i : Int) 0).isSome = true
  · simp [h]
  · rw [if_neg (fun h' => h h'.2)]
    have : ¬ ((decide (i ≠ 15) && (findI (i : Int) 0).isSome) = true) := by simpa using h
    rw [if_neg this]
theorem iF_none {i j : Nat} (h : findI (i : Int) (j : Int) = none) : iF i (j + 1) = iF i j := by
  unfold iF
  by_cases hi : i = 15
  · simp [hi]
  · have h0 : findI (i : Int) 0 = none := (findI_fn hi _ _).trans h
    simp [h0]
theorem iF_succ {i j : Nat} (hj : 0 < j) : iF i (j + 1) = iF i j := by
  unfold iF
  have e1 : 0 < j + 1 := by omega
  simp [e1, hj]
theorem iF_15 (j : Nat) : iF 15 (j + 1) = iF 15 j := by simp [iF]
theorem iF_one {i : Nat} {r : IRow} (hi : i ≠ 15) (h : findI (i : Int) 0 = some r) : iF i (0 + 1) = iF i 0 + 1 := by simp [iF, hi, h]
theorem iO_zero (i : Nat) : iO i 0 = oB i := by
  unfold iO oB
  by_cases h : 15 < i
  · simp [h]
  · by_cases h2 : i = 15 <;> simp [h, h2, cO]
theorem cO_end : cO 256 = 74 := by decide +kernel
theorem iO_end (i : Nat) : iO i 256 = oB (i + 1) := by
  unfold iO oB
  by_cases h : 15 < i
  · rw [if_pos h, if_pos (by omega)]
  · by_cases h2 : i = 15
    · rw [if_neg h, if_pos h2, if_pos (by omega), cO_end]
    · rw [if_neg h, if_neg h2, if_neg (by omega)]
theorem iO_ne {i j : Nat} (h : i ≠ 15) : iO i (j + 1) = iO i j := by simp [iO, h]
theorem iO_none {i j : Nat} (h : findI (i : Int) (j : Int) = none) : iO i (j + 1) = iO i j := by
  by_cases hi : i = 15
  · subst hi
    have h' : findI 15 (j : Int) = none := h
    simp [iO, cO, List.range_succ, h']
  · exact iO_ne hi
theorem iO_some {j : Nat} {r : IRow} (h : findI (15 : Int) (j : Int) = some r) : iO 15 (j + 1) = iO 15 j + 1 := by
  simp [iO, cO, List.range_succ, h]
theorem cF_le (i : Nat) : cF i ≤ i := by
  have h := List.countP_le_length (p := fun f : Nat => decide (f ≠ 15) && (findI (f : Int) 0).isSome) (l := List.range i)
  simpa [cF] using h
theorem iF_le {i j : Nat} (h : i ≤ 256) : iF i j ≤ 257 := by
  unfold iF
  have := cF_le i
  split <;> omega
theorem iO_le {i j : Nat} (h : j ≤ 256) : iO i j ≤ 256 := by
  unfold iO
  have h1 := List.countP_le_length (p := fun c : Nat => (findI 15 (c : Int)).isSome) (l := List.range j)
  rw [List.length_range] at h1
  have h2 : cO j ≤ j := h1
  split
  · omega
  · split <;> omega
theorem cF_end : cF 256 = 13 := by decide +kernel
theorem RK_key : ∀ i, ∀ x ∈ RK i, WideAt.IsKeyLit x
  | 0, x, h => by cases h
  | i + 1, x, h => by
    rcases List.mem_append.1 h with h | h
    · exact RK_key i x h
    · obtain ⟨c, _, hc⟩ := List.mem_filterMap.1 h
      obtain ⟨r, _, rfl⟩ := Option.map_eq_some_iff.1 hc
      trivial
def CK : Nat → List Lit
  | 0 => []
  | i + 1 => if i = 15 then (tabO.map fun r => Lit.string r.name).foldl Maps.addKey (CK i) else match findI (i : Int) 0 with
    | none => CK i
    | some r => Maps.addKey (CK i) (.string r.name)
theorem addKey_idem (acc : List Lit) (l : List UInt8) : Maps.addKey (Maps.addKey acc (.string l)) (.string l) = Maps.addKey acc (.string l) := by
  have h : (Maps.addKey acc (.string l)).any (fun y => y.sameKey (.string l)) = true := by
    unfold Maps.addKey
    by_cases h : acc.any (fun y => y.sameKey (.string l)) = true
    · rw [if_pos h]; exact h
    · rw [if_neg h]; simp [Lit.sameKey]
  conv => lhs; rw [Maps.addKey, if_pos h]
theorem fold_rep (l : List UInt8) : ∀ (n : Nat) (acc : List Lit), (List.replicate (n + 1) (Lit.string l)).foldl Maps.addKey acc = Maps.addKey acc (.string l)
  | 0, acc => rfl
  | n + 1, acc => by
    rw [List.replicate_succ, List.foldl_cons, fold_rep l n, addKey_idem]
theorem inner_rep {f : Nat} (hf : f ≠ 15) {r : IRow} (h : findI (f : Int) 0 = some r) : ∀ j, inner f j = List.replicate j (.string r.name)
  | 0 => rfl
  | j + 1 => by
    rw [inner_some ((findI_fn hf _ _).trans h), inner_rep hf h j, List.replicate_succ']
theorem inner_nil {f : Nat} (hf : f ≠ 15) (h : findI (f : Int) 0 = none) : ∀ j, inner f j = []
  | 0 => rfl
  | j + 1 => by rw [inner_none ((findI_fn hf _ _).trans h), inner_nil hf h j]
theorem inner_15 : inner 15 256 = tabO.map fun r => Lit.string r.name := by
  have h : ((List.range 256).filterMap fun c => (findI 15 ((c : Nat) : Int)).map fun r => r.name) = tabO.map fun r => r.name := by decide +kernel
  have h2 := congrArg (List.map Lit.string) h
  rw [List.map_filterMap, List.map_map] at h2
  have e : (fun c : Nat => ((findI 15 ((c : Nat) : Int)).map fun r => r.name).map Lit.string) = fun c : Nat => (findI ((15 : Nat) : Int) (c : Int)).map fun r => Lit.string r.name := by
    funext c
    rw [Option.map_map]; rfl
  rw [e] at h2
  exact h2
theorem fold_RK : ∀ i, (RK i).foldl Maps.addKey [] = CK i
  | 0 => rfl
  | i + 1 => by
    rw [RK, List.foldl_append, fold_RK i, CK]
    by_cases hi : i = 15
    · rw [if_pos hi, hi, inner_15]
    · rw [if_neg hi]
      cases h : findI (i : Int) 0 with
      | none => rw [inner_nil hi h]; rfl
      | some r => rw [inner_rep hi h]; exact fold_rep _ 255 _
theorem CK_end : (CK 256).length = 87 := by decide +kernel
theorem size_end {H : Type} (u : DataW H) : Maps.size (Maps.setOf u (RK 256)) = 87 := by
  rw [Maps.size_setOf u (RK 256) (RK_key 256), fold_RK, CK_end]
end Go.Proofs.YtibflkphkjacnaaDoor
