/- Plain lemmas: what the reading of an argument says of its cells (integers, strings, bools, structs, arrays, slices). -/
import Derived.Test.YtaakhhnlmldegaaDoorBase
import Derived.ProofKit
namespace Go.Proofs.YtaakhhnlmldegaaDoor
open Go.RowKit
set_option linter.unusedVariables false
set_option linter.unusedSimpArgs false

section
variable {H : Type} {enc : TypeId × Value → H} {P : Program} {w : World} {base : Nat} {sp : Nat → Bool} {held : Bool} {fuel : Nat} {t : TypeId} {cs : List Value} {y : DataW H × List MemPlace}
theorem trod_int_inv {k : IntKind} (ht : P.underlying t = some (.int k)) (h : DataW.trod enc P w base sp held fuel t cs = some y) : ∃ n, cs = [.int k n] ∧ (Lit.int k n).wf = true := by
  cases fuel with
  | zero => cases h
  | succ f =>
    simp only [DataW.trod, ht] at h
    split at h
    all_goals first
      | (cases h; done)
      | (rename_i e; cases e; done)
      | (rename_i e; injection e with e; injection e with e; subst e
         split at h
         · rename_i hk
           obtain ⟨rfl, hw⟩ := hk
           exact ⟨_, rfl, hw⟩
         · cases h)
theorem trod_bool_inv (ht : P.underlying t = some .bool) (h : DataW.trod enc P w base sp held fuel t cs = some y) : ∃ b, cs = [.bool b] := by
  cases fuel with
  | zero => cases h
  | succ f =>
    simp only [DataW.trod, ht] at h
    split at h
    all_goals first
      | (cases h; done)
      | (rename_i e; cases e; done)
      | exact ⟨_, rfl⟩
theorem trod_string_inv (ht : P.underlying t = some .string) (h : DataW.trod enc P w base sp held fuel t cs = some y) : ∃ s, cs = [.string s] ∧ s.size ≤ maxLen := by
  cases fuel with
  | zero => cases h
  | succ f =>
    simp only [DataW.trod, ht] at h
    split at h
    all_goals first
      | (cases h; done)
      | (rename_i e; cases e; done)
      | (split at h
         · rename_i hk
           exact ⟨_, rfl, hk⟩
         · cases h)
theorem mapM_range_some {α : Type} {f : Nat → Option α} : ∀ {n : Nat} {l : List α}, (List.range n).mapM f = some l → l.length = n ∧ ∀ i, i < n → f i = l[i]? := by
  intro n
  induction n with
  | zero => intro l h; simp at h; subst h; exact ⟨rfl, fun i hi => by omega⟩
  | succ n ih =>
    intro l h
    rw [List.range_succ, List.mapM_append] at h
    cases h1 : (List.range n).mapM f with
    | none => rw [h1] at h; cases h
    | some l1 =>
      rw [h1] at h
      cases h2 : f n with
      | none => simp [h2] at h
      | some z =>
        simp [h2] at h
        subst h
        obtain ⟨hl, hi⟩ := ih h1
        refine ⟨by simp [hl], fun i hi' => ?_⟩
        rcases Nat.lt_or_ge i n with hlt | hge
        · rw [List.getElem?_append_left (by omega)]; exact hi i hlt
        · obtain rfl : i = n := by omega
          rw [List.getElem?_append_right (by omega), hl]; simpa using h2
theorem trod_slice_inv {e : TypeId} (ht : P.underlying t = some (.slice e)) (h : DataW.trod enc P w base sp held fuel t cs = some y) :
    cs = [.slice none 0 0] ∨ ∃ a len cap f, cs = [.slice (some a) len cap] ∧ len ≤ cap ∧ cap ≤ maxLen ∧
      ∀ i, i < len → ∃ c z, w.cells? base (a.add (i * P.cellsOf e)) (P.cellsOf e) = some c ∧ DataW.trod enc P w base sp held f e c = some z := by
  cases fuel with
  | zero => cases h
  | succ f =>
    simp only [DataW.trod, ht] at h
    split at h
    all_goals first
      | (cases h; done)
      | (rename_i e; cases e; done)
      | (rename_i e; injection e with e; injection e with e; subst e; exact .inl rfl)
      | (rename_i e; injection e with e; injection e with e; subst e
         split at h
         · rename_i hk
           refine .inr ⟨_, _, _, f, rfl, hk.2.1, hk.2.2, ?_⟩
           cases h1 : (List.range _).mapM (fun i => (w.cells? base (Addr.add _ (i * P.cellsOf _)) (P.cellsOf _)).bind (DataW.trod enc P w base sp held f _)) with
           | none => rw [h1] at h; cases h
           | some l =>
             intro i hi
             have h2 := (mapM_range_some h1).2 i hi
             have hl := (mapM_range_some h1).1
             rw [List.getElem?_eq_getElem (by omega)] at h2
             obtain ⟨c, hc, hz⟩ := Option.bind_eq_some_iff.1 h2
             exact ⟨c, _, hc, hz⟩
         · cases h)
theorem cells_inv {a : Addr} {n : Nat} {c : List Value} (h : w.cells? base a n = some c) : c.length = n ∧ ∀ j u, c[j]? = some u → w.cell? (a.add j) = some u := by
  obtain ⟨_, hl, hc⟩ := World.cells?_some h
  refine ⟨hl, fun j u hu => ?_⟩
  have hj := (List.getElem?_eq_some_iff.1 hu).1
  rw [hc j (by omega), hu]
theorem trod_struct_inv {fs : Array Field} (ht : P.underlying t = some (.struct fs)) (h : DataW.trod enc P w base sp held fuel t cs = some y) :
    ∃ f, cs.length = P.cellsOf t ∧ ∀ x ∈ fs.toList, ∃ z, DataW.trod enc P w base sp held f x.type ((cs.drop x.offset).take (P.cellsOf x.type)) = some z := by
  cases fuel with
  | zero => cases h
  | succ f =>
    simp only [DataW.trod, ht] at h
    split at h
    · rename_i hk
      refine ⟨f, hk, ?_⟩
      cases h1 : List.mapM (fun x : Field => DataW.trod enc P w base sp held f x.type ((cs.drop x.offset).take (P.cellsOf x.type))) fs.toList with
      | none => rw [h1] at h; cases h
      | some l =>
        clear h
        generalize fs.toList = xs at h1
        induction xs generalizing l with
        | nil => intro x hx; cases hx
        | cons x r ih =>
          rw [List.mapM_cons] at h1
          cases h2 : DataW.trod enc P w base sp held f x.type ((cs.drop x.offset).take (P.cellsOf x.type)) with
          | none => rw [h2] at h1; cases h1
          | some z =>
            rw [h2] at h1
            cases h3 : List.mapM (fun x : Field => DataW.trod enc P w base sp held f x.type ((cs.drop x.offset).take (P.cellsOf x.type))) r with
            | none => rw [h3] at h1; cases h1
            | some l' =>
              intro x' hx'
              rcases List.mem_cons.1 hx' with rfl | hx'
              · exact ⟨_, h2⟩
              · exact ih _ h3 x' hx'
    · cases h
end
end Go.Proofs.YtaakhhnlmldegaaDoor
