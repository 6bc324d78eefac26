/- A drawn region whose operations' values are fixed ahead: each operation is looked at once, whatever order is drawn. -/
import Derived.Test.YtaakhhnlmldegaaDoorBase
namespace Go.Proofs.YtaakhhnlmldegaaDoor
open Go.RowKit
set_option linter.unusedVariables false
set_option linter.unusedSimpArgs false

section
variable {P : Program} {ops : Array Oper} {Q : Exit → Act → World → Prop}

/-- What an act is when the operations of L have come up, each with its value. -/
structure Filled (ops : Array Oper) (V : Nat → Value) (a0 : Act) (L : Nat → Bool) (a : Act) : Prop where
  hit : ∀ (i : Nat) (o : Oper) (d : Nat), ops[i]? = some o → o.dst = some d → L i = true → a.tmps[d]? = some (V i)
  miss : ∀ k, (∀ (i : Nat) (o : Oper), ops[i]? = some o → L i = true → o.dst ≠ some k) → a.tmps[k]? = a0.tmps[k]?
  defers : a.defers = a0.defers
  size : a.tmps.size = a0.tmps.size

/-- An operation leaves v, and a world of which R holds. -/
def LeavesV (P : Program) (o : Oper) (v : Value) (a : Act) (w : World) (R : World → Prop) : Prop :=
  ∀ (K : Act → World → Prop) (Q : Exit → Act → World → Prop), (∀ w', R w' → K (a.put o.dst v) w') → o.wp P a w K Q

/-- The frame's shape: plain operations, edges to the front, slots apart and in the frame. -/
structure Apart (ops : Array Oper) (n : Nat) : Prop where
  plain : ∀ (i : Nat) (o : Oper), ops[i]? = some o → o.guard = none
  back : ∀ (i : Nat) (o : Oper), ops[i]? = some o → ∀ e ∈ o.after, e.on < i
  inside : ∀ (i : Nat) (o : Oper) (d : Nat), ops[i]? = some o → o.dst = some d → d < n
  one : ∀ (i j : Nat) (o o' : Oper) (d : Nat), ops[i]? = some o → ops[j]? = some o' → o.dst = some d → o'.dst = some d → i = j

def upd (L : Nat → Bool) (i : Nat) : Nat → Bool := fun j => if j = i then true else L j
theorem put_get (a : Act) (d : Nat) (v : Value) (k : Nat) : (a.put (some d) v).tmps[k]? = if k = d ∧ d < a.tmps.size then some v else a.tmps[k]? := by
  simp only [Act.put, Array.getElem?_setIfInBounds]
  by_cases h : d = k
  · subst h
    by_cases h2 : d < a.tmps.size
    · simp [h2]
    · simp [h2]
  · rw [if_neg h, if_neg (fun h2 => h h2.1.symm)]
theorem Filled.put {V : Nat → Value} {a0 a : Act} {L : Nat → Bool} (hA : Apart ops a0.tmps.size) (h : Filled ops V a0 L a) {i : Nat} {o : Oper} (hi : ops[i]? = some o) : Filled ops V a0 (upd L i) (a.put o.dst (V i)) := by
  cases hd : o.dst with
  | none =>
    refine ⟨fun j o' d hj hd' hL => ?_, fun k hk => h.miss k fun j o' hj hL => hk j o' hj ?_, h.defers, h.size⟩
    · by_cases hji : j = i
      · subst hji; rw [hi] at hj; cases hj; rw [hd] at hd'; cases hd'
      · exact h.hit j o' d hj hd' (by simpa [upd, hji] using hL)
    · simp only [upd]; split <;> first | rfl | exact hL
  | some d =>
    have hds := hA.inside i o d hi hd
    refine ⟨fun j o' d' hj hd' hL => ?_, fun k hk => ?_, h.defers, by simp [Act.put, h.size]⟩
    · rw [put_get]
      by_cases hji : j = i
      · subst hji; rw [hi] at hj; cases hj; rw [hd] at hd'; cases hd'
        rw [if_pos ⟨rfl, by rw [h.size]; exact hds⟩]
      · rw [if_neg (fun hc => hji (hA.one j i o' o d' hj hi hd' (by rw [hd, hc.1])))]
        exact h.hit j o' d' hj hd' (by simpa [upd, hji] using hL)
    · rw [put_get, if_neg (fun hc => hk i o hi (by simp [upd]) (by rw [hd, hc.1]))]
      exact h.miss k fun j o' hj hL => hk j o' hj (by simp only [upd]; split <;> first | rfl | exact hL)
theorem Filled.same {V : Nat → Value} {a0 a b : Act} {L : Nat → Bool} (h : Filled ops V a0 L a) (h' : Filled ops V a0 L b) : a = b := by
  obtain ⟨t, d⟩ := a
  obtain ⟨t', d'⟩ := b
  have e : t = t' := by
    apply Array.ext_getElem?
    intro k
    by_cases hk : ∃ (i : Nat) (o : Oper), ops[i]? = some o ∧ L i = true ∧ o.dst = some k
    · obtain ⟨i, o, hi, hL, hd⟩ := hk
      exact (h.hit i o k hi hd hL).trans (h'.hit i o k hi hd hL).symm
    · have hn : ∀ (i : Nat) (o : Oper), ops[i]? = some o → L i = true → o.dst ≠ some k := fun i o hi hL hd => hk ⟨i, o, hi, hL, hd⟩
      exact (h.miss k hn).trans (h'.miss k hn).symm
  subst e
  have e2 : d = d' := h.defers.trans h'.defers.symm
  rw [e2]
/-- All values in their slots. -/
def putAll (ops : Array Oper) (V : Nat → Value) : Nat → Act → Act
  | 0, a => a
  | n + 1, a => (putAll ops V n a).put ((ops[n]?).bind (·.dst)) (V n)
theorem putAll_filled {V : Nat → Value} {a0 : Act} (hA : Apart ops a0.tmps.size) : ∀ n, n ≤ ops.size → Filled ops V a0 (fun i => decide (i < n)) (putAll ops V n a0)
  | 0, _ => ⟨fun i o d _ _ h => by simp at h, fun _ _ => rfl, rfl, rfl⟩
  | n + 1, hn => by
    have h := putAll_filled (V := V) hA n (by omega)
    have hi : ops[n]? = some ops[n] := Array.getElem?_eq_getElem (by omega)
    have h2 := h.put hA hi
    have e : upd (fun i => decide (i < n)) n = fun i => decide (i < n + 1) := by
      funext j
      simp only [upd]
      by_cases hj : j = n
      · subst hj; simp
      · rw [if_neg hj]; simp; omega
    rw [e] at h2
    simp only [putAll, hi, Option.bind_some]
    exact h2

def listedF (l : Array Bool) : Nat → Bool := fun i => l.getD i true
theorem listedF_set {l : Array Bool} {i : Nat} (h : i < l.size) : listedF (l.setIfInBounds i true) = upd (listedF l) i := by
  funext j
  simp only [listedF, upd, Array.getD_eq_getD_getElem?, Array.getElem?_setIfInBounds]
  by_cases hj : i = j
  · subst hj; simp [h]
  · rw [if_neg hj, if_neg (Ne.symm hj)]
theorem ready_mem {md : Region.Mode} {l : Array Bool} {i : Nat} : i ∈ Region.ready md ops l ↔ ∃ o, ops[i]? = some o ∧ l.getD i true = false ∧ ∀ e ∈ o.after, Region.binds md e = true → l.getD e.on false = true := by
  simp only [Region.ready, List.mem_filter, List.mem_range, Bool.and_eq_true, Bool.not_eq_true']
  constructor
  · rintro ⟨h, h1, h2⟩
    refine ⟨ops[i], Array.getElem?_eq_getElem h, h1, ?_⟩
    rw [Array.getElem?_eq_getElem h] at h2
    simp only [Option.map_some, Option.getD_some, Array.all_eq_true_iff_forall_mem, Bool.or_eq_true, Bool.not_eq_true'] at h2
    intro e he hb
    rcases h2 e he with h3 | h3
    · rw [hb] at h3; cases h3
    · exact h3
  · rintro ⟨o, ho, h1, h2⟩
    refine ⟨(Array.getElem?_eq_some_iff.1 ho).1, h1, ?_⟩
    rw [ho]
    simp only [Option.map_some, Option.getD_some, Array.all_eq_true_iff_forall_mem, Bool.or_eq_true, Bool.not_eq_true']
    intro e he
    cases hb : Region.binds md e
    · exact .inl rfl
    · exact .inr (h2 e he hb)
theorem ready_none {md : Region.Mode} {l : Array Bool} {n : Nat} (hA : Apart ops n) (hl : l.size = ops.size) (h : Region.ready md ops l = []) : ∀ i, i < ops.size → l.getD i true = true := by
  intro i
  induction i using Nat.strongRecOn with
  | ind i ih =>
    intro hi
    cases hc : l.getD i true with
    | true => rfl
    | false =>
      exfalso
      have hm : i ∈ Region.ready md ops l := by
        refine ready_mem.2 ⟨ops[i], Array.getElem?_eq_getElem hi, hc, fun e he hb => ?_⟩
        have hlt := hA.back i ops[i] (Array.getElem?_eq_getElem hi) e he
        have := ih e.on hlt (by omega)
        simp only [Array.getD_eq_getD_getElem?] at this ⊢
        have hs : e.on < l.size := by omega
        rw [Array.getElem?_eq_getElem hs] at this ⊢
        exact this
      rw [h] at hm
      cases hm
/-- **Any order of a region whose values are fixed ahead.** -/
theorem wpAny_fixed {md : Region.Mode} {V : Nat → Value} {S : (Nat → Bool) → World → Prop} {a0 : Act} (hA : Apart ops a0.tmps.size)
    (hop : ∀ (i : Nat) (o : Oper) (L : Nat → Bool) (a : Act) (w : World), ops[i]? = some o → L i = false → (∀ e ∈ o.after, Region.binds md e = true → L e.on = true) → Filled ops V a0 L a → S L w → LeavesV P o (V i) a w (S (upd L i)))
    (hend : ∀ (L : Nat → Bool) (w : World), (∀ i, i < ops.size → L i = true) → S L w → Q .normal (putAll ops V ops.size a0) w) :
    ∀ (fuel : Nat) (l : Array Bool) (a : Act) (w : World), l.size = ops.size → (l.toList.count false ≤ fuel) → Filled ops V a0 (listedF l) a → S (listedF l) w → wpAny P md ops Q fuel l a w := by
  have hdone : ∀ (l : Array Bool) (a : Act) (w : World), l.size = ops.size → Filled ops V a0 (listedF l) a → S (listedF l) w → Region.ready md ops l = [] → Q .normal a w := by
    intro l a w hl hF hS hr
    have hall := ready_none hA hl hr
    have hF2 := putAll_filled (V := V) hA ops.size (Nat.le_refl _)
    have hF3 : Filled ops V a0 (listedF l) (putAll ops V ops.size a0) := by
      refine ⟨fun i o d hi hd _ => hF2.hit i o d hi hd (by simpa using (Array.getElem?_eq_some_iff.1 hi).1), fun k hk => hF2.miss k fun i o hi _ => hk i o hi (hall i (Array.getElem?_eq_some_iff.1 hi).1), hF2.defers, hF2.size⟩
    rw [hF.same hF3]
    exact hend (listedF l) w hall hS
  intro fuel
  induction fuel with
  | zero =>
    intro l a w hl hc hF hS
    have hr : Region.ready md ops l = [] := by
      apply List.eq_nil_iff_forall_not_mem.2
      intro i hi
      obtain ⟨o, ho, h1, -⟩ := ready_mem.1 hi
      have hi' : i < l.size := by rw [hl]; exact (Array.getElem?_eq_some_iff.1 ho).1
      have hm : false ∈ l.toList := by
        have : l[i] = false := by simpa [Array.getD_eq_getD_getElem?, Array.getElem?_eq_getElem hi'] using h1
        rw [← this]; exact Array.getElem_mem_toList hi'
      have := List.count_pos_iff.2 hm
      omega
    exact ⟨hr, hdone l a w hl hF hS hr⟩
  | succ fuel ih =>
    intro l a w hl hc hF hS
    refine ⟨hdone l a w hl hF hS, fun i hi => ?_⟩
    obtain ⟨o, ho, h1, h2⟩ := ready_mem.1 hi
    have hi' : i < l.size := by rw [hl]; exact (Array.getElem?_eq_some_iff.1 ho).1
    have hL2 : ∀ e ∈ o.after, Region.binds md e = true → listedF l e.on = true := by
      intro e he hb
      have h3 := h2 e he hb
      have hs : e.on < l.size := by have := hA.back i o ho e he; omega
      simp only [listedF, Array.getD_eq_getD_getElem?] at h3 ⊢
      rw [Array.getElem?_eq_getElem hs] at h3 ⊢
      exact h3
    unfold wpOp
    simp only [ho]
    have hw : Region.wanted o (yielded ops a.tmps) = true := by simp [Region.wanted, hA.plain i o ho]
    rw [if_pos hw]
    refine .inl (hop i o (listedF l) a w ho h1 hL2 hF hS _ _ fun w' hS' => ?_)
    have e := listedF_set hi'
    refine ih _ _ _ (by simpa using hl) ?_ (by rw [e]; exact hF.put hA ho) (by rw [e]; exact hS')
    have hf : l[i] = false := by simpa [Array.getD_eq_getD_getElem?, Array.getElem?_eq_getElem hi'] using h1
    have : (l.setIfInBounds i true).toList.count false + 1 = l.toList.count false := by
      have h0 : l.toList[i]'(by simpa using hi') = false := by simpa using hf
      have hp : 0 < l.toList.count false := List.count_pos_iff.2 (by rw [← h0]; exact List.getElem_mem _)
      have h5 := List.count_set (l := l.toList) (a := true) (b := false) (i := i) (by simpa using hi')
      rw [h0] at h5
      rw [Array.toList_setIfInBounds, h5]
      have e1 : (false == false) = true := rfl
      have e2 : (true == false) = false := rfl
      rw [e1, e2]
      simp only [if_true, Bool.false_eq_true, if_false]
      omega
    omega
end
end Go.Proofs.YtaakhhnlmldegaaDoor
