/- A drawn region of quiet operations, one alloc and one last store: the text's order walked serves every order. -/
import Derived.Test.YtaakhhnlmldegaaDoorFV
import Derived.Deep.Quiet
namespace Go.Proofs.YtaakhhnlmldegaaDoor
open Go.RowKit
set_option linter.unusedVariables false
set_option linter.unusedSimpArgs false

section
variable {P : Program} {Q : Exit → Act → World → Prop}

def depB (l : List Oper) (o : Oper) (t : Nat) : Bool :=
  (List.range l.length).all fun j => match l[j]? with
    | some o' => o'.dst != some t || o.after.any (fun e => e.on == j && Region.binds .any e)
    | none => true
def depsB (l : List Oper) (o : Oper) : Bool := o.op.operands.all fun x => match x with
  | .tmp t => depB l o t
  | _ => true
def selB (o : Oper) : Bool := match o.op with
  | .select _ _ => false
  | _ => true
def apartAt (l : List Oper) (n : Nat) (i : Nat) (o : Oper) : Bool :=
  o.guard.isNone && o.after.all (fun e => decide (e.on < i)) && (match o.dst with
    | some d => decide (d < n) && (List.range l.length).all (fun j => decide (j = i) || match l[j]? with
        | some o' => o'.dst != some d
        | none => true)
    | none => true) && depsB l o && selB o
def apartB (l : List Oper) (n : Nat) : Bool :=
  (List.range l.length).all fun i => match l[i]? with
    | some o => apartAt l n i o
    | none => true
theorem apartB_at {l : List Oper} {n i : Nat} {o : Oper} (h : apartB l n = true) (hi : l[i]? = some o) : apartAt l n i o = true := by
  have h1 := List.all_eq_true.1 h i (List.mem_range.2 (List.getElem?_eq_some_iff.1 hi).1)
  rw [hi] at h1
  exact h1
theorem apartB_spec {l : List Oper} {n : Nat} (h : apartB l n = true) : Apart l.toArray n := by
  refine ⟨fun i o hi => ?_, fun i o hi e he => ?_, fun i o d hi hd => ?_, fun i j o o' d hi hj hd hd' => ?_⟩
  all_goals
    rw [List.getElem?_toArray] at hi
    have h1 := apartB_at h hi
    simp only [apartAt, Bool.and_eq_true] at h1
    obtain ⟨⟨⟨⟨h1, h2⟩, h3⟩, h4⟩, h5⟩ := h1
  · simpa using h1
  · exact of_decide_eq_true (Array.all_eq_true_iff_forall_mem.1 h2 e he)
  · rw [hd] at h3
    simp only [Bool.and_eq_true] at h3
    exact of_decide_eq_true h3.1
  · rw [hd] at h3
    simp only [Bool.and_eq_true] at h3
    rw [List.getElem?_toArray] at hj
    have h6 := List.all_eq_true.1 h3.2 j (List.mem_range.2 (List.getElem?_eq_some_iff.1 hj).1)
    rw [hj] at h6
    simp only [hd', Bool.or_eq_true, decide_eq_true_eq, bne_self_eq_false, Bool.false_eq_true, or_false] at h6
    exact h6.symm
theorem apartB_sel {l : List Oper} {n i : Nat} {o : Oper} (h : apartB l n = true) (hi : l[i]? = some o) : ∀ cs b, o.op ≠ .select cs b := by
  have h1 := apartB_at h hi
  simp only [apartAt, Bool.and_eq_true] at h1
  intro cs b e
  have h2 := h1.2
  rw [selB, e] at h2
  cases h2
theorem any_mem {α : Type} {f : α → Bool} {ar : Array α} (h : ar.any f = true) : ∃ x, x ∈ ar ∧ f x = true := by
  rw [← Array.any_toList] at h
  obtain ⟨x, hx, hp⟩ := List.any_eq_true.1 h
  exact ⟨x, by simpa using hx, hp⟩
theorem agree {l : List Oper} {n i : Nat} {o : Oper} (h : apartB l n = true) (hi : l[i]? = some o) {V : Nat → Value} {a0 a b : Act} {L L' : Nat → Bool} (hF : Filled l.toArray V a0 L a) (hF' : Filled l.toArray V a0 L' b)
    (hL : ∀ e ∈ o.after, Region.binds .any e = true → L e.on = true) (hL' : ∀ e ∈ o.after, Region.binds .any e = true → L' e.on = true) : execOp a.eval o = execOp b.eval o := by
  refine execOp_congr o (apartB_sel h hi) fun x hx => ?_
  cases x with
  | tmp t =>
    have h1 := apartB_at h hi
    simp only [apartAt, Bool.and_eq_true] at h1
    have h2 : depB l o t = true := Array.all_eq_true_iff_forall_mem.1 h1.1.2 _ hx
    have e : a.tmps[t]? = b.tmps[t]? := by
      by_cases hk : ∃ (j : Nat) (o' : Oper), l[j]? = some o' ∧ o'.dst = some t
      · obtain ⟨j, o', hj, hd⟩ := hk
        have h3 := List.all_eq_true.1 h2 j (List.mem_range.2 (List.getElem?_eq_some_iff.1 hj).1)
        rw [hj] at h3
        simp only [hd, bne_self_eq_false, Bool.false_or] at h3
        obtain ⟨e, he, h4⟩ := any_mem h3
        simp only [Bool.and_eq_true, beq_iff_eq] at h4
        obtain ⟨rfl, hb⟩ := h4
        exact (hF.hit e.on o' t (by simpa using hj) hd (hL e he hb)).trans (hF'.hit e.on o' t (by simpa using hj) hd (hL' e he hb)).symm
      · have hn : ∀ (L : Nat → Bool) (j : Nat) (o' : Oper), l.toArray[j]? = some o' → L j = true → o'.dst ≠ some t := fun _ j o' hj _ hd => hk ⟨j, o', by simpa using hj, hd⟩
        exact (hF.miss t (hn L)).trans (hF'.miss t (hn L')).symm
    simp only [Act.eval, Array.getD_eq_getD_getElem?, e]
  | _ => rfl
theorem quiet_miss {ops : Array Oper} {C : World → Prop} {A : Act} : ∀ (suf : List Oper) (b : Act), (∀ o ∈ suf, o.guard = none) → wpQuiet P ops C (fun a' => a' = A) suf b → ∀ d, (∀ o ∈ suf, o.dst ≠ some d) → A.tmps[d]? = b.tmps[d]?
  | [], b, _, h, d, _ => by
    have h : b = A := h
    rw [h]
  | o :: suf, b, hg, h, d, hd => by
    simp only [wpQuiet] at h
    have hw : Region.wanted o (yielded ops b.tmps) = true := by simp [Region.wanted, hg o (by simp)]
    rw [if_pos hw] at h
    obtain ⟨v, -, h2⟩ := h
    have h3 := quiet_miss suf _ (fun o ho => hg o (by simp [ho])) h2 d (fun o ho => hd o (by simp [ho]))
    rw [h3]
    have h4 := hd o (by simp)
    cases hdo : o.dst with
    | none => rfl
    | some e =>
      rw [put_get, if_neg (fun hc => h4 (by rw [hdo, hc.1]))]
/-- What the end of the walk holds in an operation's slot. -/
def endV (l : List Oper) (A : Act) (n : Nat) (p : Value) (i : Nat) : Value :=
  if i < n then (((l[i]?).bind (·.dst)).bind (A.tmps[·]?)).getD undef else if i = n then p else undef
theorem quiet_steps {l : List Oper} {C : World → Prop} {a A : Act} {n : Nat} {p : Value} (hB : apartB l a.tmps.size = true) (hn : n ≤ l.length) (hsome : ∀ o ∈ l.take n, ∃ d, o.dst = some d)
    (h : wpQuiet P l.toArray C (fun a' => a' = A) (l.take n) a) : ∀ m, m ≤ n → wpQuiet P l.toArray C (fun a' => a' = A) ((l.take n).drop m) (putAll l.toArray (endV l A n p) m a) ∧
      ∀ i o, i < m → l[i]? = some o → ∀ w, C w → o.quietAt P (putAll l.toArray (endV l A n p) i a) C w (endV l A n p i)
  | 0, _ => ⟨h, fun i o hi => absurd hi (Nat.not_lt_zero _)⟩
  | m + 1, hm => by
    obtain ⟨h1, h2⟩ := quiet_steps hB hn hsome h m (by omega)
    have hml : m < l.length := by omega
    have hg : l[m]? = some l[m] := List.getElem?_eq_getElem hml
    have hA := apartB_spec hB
    have hd : (l.take n).drop m = l[m] :: (l.take n).drop (m + 1) := by
      rw [List.drop_eq_getElem_cons (by simp; omega)]
      simp
    rw [hd] at h1
    simp only [wpQuiet] at h1
    have hw : Region.wanted l[m] (yielded l.toArray (putAll l.toArray (endV l A n p) m a).tmps) = true := by simp [Region.wanted, hA.plain m l[m] (by rw [List.getElem?_toArray]; exact hg)]
    rw [if_pos hw] at h1
    obtain ⟨v, h3, h4⟩ := h1
    obtain ⟨d, hdm⟩ := hsome l[m] (List.mem_take_iff_getElem.2 ⟨m, by omega, rfl⟩)
    have hsz := (putAll_filled (V := endV l A n p) hA m (by simpa using Nat.le_of_lt hml)).size
    have hv : endV l A n p m = v := by
      have h5 := quiet_miss _ _ (fun o ho => ?_) h4 d (fun o ho hod => ?_)
      · rw [hdm, put_get, if_pos ⟨rfl, by rw [hsz]; exact hA.inside m l[m] d (by rw [List.getElem?_toArray]; exact hg) hdm⟩] at h5
        simp only [endV, hg, Option.bind_some, hdm, h5, Option.getD_some]
        rw [if_pos (by omega)]
      · obtain ⟨j, hj, rfl⟩ := List.getElem_of_mem ho
        simp only [List.getElem_drop, List.getElem_take]
        exact hA.plain (m + 1 + j) _ (by rw [List.getElem?_toArray]; exact List.getElem?_eq_getElem _)
      · obtain ⟨j, hj, rfl⟩ := List.getElem_of_mem ho
        simp only [List.getElem_drop, List.getElem_take] at hod
        have := hA.one (m + 1 + j) m _ _ d (by rw [List.getElem?_toArray]; exact List.getElem?_eq_getElem _) (by rw [List.getElem?_toArray]; exact hg) hod hdm
        omega
    refine ⟨?_, fun i o hi ho w hC => ?_⟩
    · simp only [putAll, List.getElem?_toArray, hg, Option.bind_some]
      rw [hv]
      exact h4
    · by_cases him : i = m
      · subst him
        rw [hg] at ho
        cases ho
        rw [hv]
        exact h3 w hC
      · exact h2 i o (by omega) ho w hC
/-- **A drawn region of quiet operations, one alloc and one store behind it.** -/
theorem wp_region_quiet_new {id : Nat} {l : List Oper} {a A : Act} {w w2 w3 : World} (n : Nat) {oA oS : Oper} {dA : Nat} {p : Value} (hm : P.follows .mixedOrders = true) {mm : Nat} (hsz : a.tmps.size = mm) (hB : apartB l mm = true)
    (hlen : l.length = n + 2) (hsome : (l.take n).all (fun o => o.dst.isSome) = true) (hoA : l[n]? = some oA) (hoS : l[n + 1]? = some oS) (hdA : oA.dst = some dA) (hdS : oS.dst = none)
    (hAS : oS.after.any (fun e => e.on == n && Region.binds .any e) = true)
    (hrA : ∀ a : Act, (execOp a.eval oA).run P w.drew = .ok (.value p) w2)
    (hrS : (execOp (A.put (some dA) p).eval oS).run P w2 = .ok .skip w3)
    (h1 : wpQuiet P l.toArray (fun w' => w' = w.drew) (fun a' => a' = A) (l.take n) a)
    (h2 : wpQuiet P l.toArray (fun w' => w' = w2) (fun a' => a' = A) (l.take n) a)
    (h3 : wpQuiet P l.toArray (fun w' => w' = w3) (fun a' => a' = A) (l.take n) a)
    (hend : Q .normal (A.put (some dA) p) w3) : (Code.region id l.toArray true).wp P Q a w := by
  subst hsz
  have hA := apartB_spec hB
  have hsm : ∀ o ∈ l.take n, ∃ d, o.dst = some d := fun o ho => Option.isSome_iff_exists.1 (List.all_eq_true.1 hsome o ho)
  obtain ⟨V, hV⟩ : ∃ V, endV l A n p = V := ⟨_, rfl⟩
  have q1 := quiet_steps (p := p) hB (by omega) hsm h1 n (Nat.le_refl _)
  have q2 := (quiet_steps (p := p) hB (by omega) hsm h2 n (Nat.le_refl _)).2
  have q3 := (quiet_steps (p := p) hB (by omega) hsm h3 n (Nat.le_refl _)).2
  have hAe : putAll l.toArray (endV l A n p) n a = A := by
    have h := q1.1
    rw [List.drop_of_length_le (by rw [List.length_take]; omega)] at h
    exact h
  have q1 := q1.2
  have hVn : endV l A n p n = p := by simp [endV]
  have hVs : endV l A n p (n + 1) = undef := by
    simp only [endV]
    rw [if_neg (by omega), if_neg (by omega)]
  rw [hV] at q1 q2 q3 hAe hVn hVs
  clear hV h1 h2 h3
  have hAn : putAll l.toArray V (n + 1) a = A.put (some dA) p := by
    simp only [putAll, hAe, List.getElem?_toArray, hoA, Option.bind_some, hdA, hVn]
  have hAl : putAll l.toArray V (n + 2) a = A.put (some dA) p := by
    rw [putAll, hAn]
    simp only [List.getElem?_toArray, hoS, Option.bind_some, hdS]
    rfl
  have hfill : ∀ i, i ≤ l.length → Filled l.toArray V a (fun j => decide (j < i)) (putAll l.toArray V i a) := fun i hi => putAll_filled hA i (by simpa using hi)
  have hback : ∀ (i : Nat) (o : Oper), l[i]? = some o → ∀ e ∈ o.after, Region.binds .any e = true → (fun j => decide (j < i)) e.on = true := fun i o hi e he _ => by
    have := hA.back i o (by simpa using hi) e he
    simpa using this
  refine wp_region_any hm ?_
  refine wpAny_fixed (V := V) (S := fun L wx => (L n = false ∧ L (n + 1) = false ∧ wx = w.drew) ∨ (L n = true ∧ L (n + 1) = false ∧ wx = w2) ∨ (L n = true ∧ L (n + 1) = true ∧ wx = w3)) (a0 := a) hA ?_ ?_ _ _ _ _ (by simp) (by simp) ?_ ?_
  · intro i o L b wx hi hL he hF hS K Q' hK
    rw [List.getElem?_toArray] at hi
    have hil := (List.getElem?_eq_some_iff.1 hi).1
    have hag := agree hB hi hF (hfill i (by omega)) he (hback i o hi)
    unfold Oper.wp
    rw [hag]
    by_cases hin : i < n
    · have hq : o.quietAt P (putAll l.toArray V i a) (fun w' => w' = wx) wx (V i) := by
        rcases hS with ⟨-, -, rfl⟩ | ⟨-, -, rfl⟩ | ⟨-, -, rfl⟩
        · exact q1 i o hin hi _ rfl
        · exact q2 i o hin hi _ rfl
        · exact q3 i o hin hi _ rfl
      have hS' : ∀ w', w' = wx → K (b.put o.dst (V i)) w' := by
        rintro w' rfl
        refine hK w' ?_
        have e1 : upd L i n = L n := by simp only [upd]; rw [if_neg (by omega)]
        have e2 : upd L i (n + 1) = L (n + 1) := by simp only [upd]; rw [if_neg (by omega)]
        simp only [e1, e2]
        exact hS
      unfold Oper.quietAt at hq
      generalize (execOp (putAll l.toArray V i a).eval o).run P wx = r at hq
      cases r with
      | ok x w' =>
        cases x <;> simp only [Oper.quietUpon] at hq <;> simp only [Oper.upon]
        case value u => obtain ⟨rfl, rfl⟩ := hq; exact hS' _ rfl
        case skip => obtain ⟨rfl, h⟩ := hq; rw [← h]; exact hS' _ rfl
        case enter f args =>
          obtain ⟨rfl, hc⟩ := hq
          refine Calls.mono hc fun e w'' h => ?_
          obtain ⟨rfl, rfl⟩ := h
          exact hS' _ rfl
      | halt x w' => simp only [Oper.quietUpon] at hq
    · by_cases hi2 : i = n
      · subst hi2
        rw [hoA] at hi
        cases hi
        rcases hS with ⟨s1, s2, rfl⟩ | ⟨s1, -, -⟩ | ⟨s1, -, -⟩
        · rw [hrA]
          simp only [Oper.upon]
          rw [← hVn]
          exact hK _ (.inr (.inl ⟨by simp [upd], by simp only [upd]; rw [if_neg (by omega)]; exact s2, rfl⟩))
        · rw [hL] at s1; cases s1
        · rw [hL] at s1; cases s1
      · obtain rfl : i = n + 1 := by omega
        rw [hoS] at hi
        cases hi
        obtain ⟨e, hem, heb⟩ := any_mem hAS
        simp only [Bool.and_eq_true, beq_iff_eq] at heb
        have hLn := he e hem heb.2
        rw [heb.1] at hLn
        rcases hS with ⟨s1, -, -⟩ | ⟨s1, s2, rfl⟩ | ⟨-, s2, -⟩
        · rw [hLn] at s1; cases s1
        · rw [hAn, hrS]
          simp only [Oper.upon]
          rw [← hVs]
          exact hK _ (.inr (.inr ⟨by simp only [upd]; rw [if_neg (by omega)]; exact s1, by simp [upd], rfl⟩))
        · rw [hL] at s2; cases s2
  · intro L wx hall hS
    have e0 : l.toArray.size = n + 2 := by simpa using hlen
    rw [e0, hAl]
    have h1 := hall n (by omega)
    have h2 := hall (n + 1) (by omega)
    rcases hS with ⟨s1, -, -⟩ | ⟨-, s2, -⟩ | ⟨-, -, rfl⟩
    · rw [h1] at s1; cases s1
    · rw [h2] at s2; cases s2
    · exact hend
  · refine ⟨fun i o d hi _ hL => ?_, fun _ _ => rfl, rfl, rfl⟩
    have hi' := (Array.getElem?_eq_some_iff.1 hi).1
    simp only [List.size_toArray] at hi'
    simp [listedF, Array.getD_eq_getD_getElem?, hi'] at hL
  · refine .inl ⟨?_, ?_, rfl⟩
    · simp [listedF, Array.getD_eq_getD_getElem?, hlen]
    · simp [listedF, Array.getD_eq_getD_getElem?, hlen]
end
end Go.Proofs.YtaakhhnlmldegaaDoor
