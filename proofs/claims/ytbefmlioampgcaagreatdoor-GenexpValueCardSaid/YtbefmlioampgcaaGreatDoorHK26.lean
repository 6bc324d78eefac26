/- Texts that belong together, joined: what each one holds is told ahead of it. -/
import Derived.Test.YtbefmlioampgcaaGreatDoorHK23
import Derived.Test.YtbefmlioampgcaaGreatDoorHK24
import Derived.Test.YtbefmlioampgcaaGreatDoorHDB
import Derived.Test.YtbefmlioampgcaaGreatDoorHK16
set_option linter.unusedVariables false
set_option linter.unusedSimpArgs false
/- What the document's dims, Lies and Offsets say of an expression; plain. -/
namespace Go.Proofs.YtbefmlioampgcaaGreatDoor
open Go.RowKit
set_option linter.unusedVariables false
set_option linter.unusedSimpArgs false

mutual
/-- Every part is as p says. -/
def allE (p : KE → Bool) : KE → Bool
  | ⟨k, o, t, n, v, A, c, l⟩ => p ⟨k, o, t, n, v, A, c, l⟩ && allL p l
def allL (p : KE → Bool) : List KE → Bool
  | [] => true
  | e :: l => allE p e && allL p l
end
theorem allE_eq (p : KE → Bool) (e : KE) : allE p e = (p e && allL p e.l) := by
  obtain ⟨k, o, t, n, v, A, c, l⟩ := e
  rw [allE]
theorem allL_snoc (p : KE → Bool) : ∀ (l : List KE) (x : KE), allL p (l ++ [x]) = (allL p l && allE p x)
  | [], x => by rw [List.nil_append, allL, allL, allL, Bool.and_true, Bool.true_and]
  | y :: l, x => by rw [List.cons_append, allL, allL, allL_snoc p l x, Bool.and_assoc]
theorem allL_iff (p : KE → Bool) : ∀ {l : List KE}, allL p l = true ↔ ∀ x ∈ l, allE p x = true
  | [] => by simp [allL]
  | y :: l => by simp [allL, allL_iff p (l := l)]
theorem allL_out (p : KE → Bool) {l : List KE} {k : Nat} {x : KE} (hx : l[k]? = some x) (h : allE p x = false) : allL p l = false := by
  cases hl : allL p l with
  | false => rfl
  | true => have := (allL_iff p).1 hl x (List.mem_of_getElem? hx); rw [h] at this; cases this
theorem allE_iff {p : KE → Bool} (e : KE) : allE p e = true ↔ e.all (fun x => p x = true) := by
  induction e using KE.ind with
  | h e ih =>
    rw [allE_eq, KE.all_iff, Bool.and_eq_true, allL_iff]
    exact ⟨fun h => ⟨h.1, fun x hx => (ih x hx).1 (h.2 x hx)⟩, fun h => ⟨h.1, fun x hx => (ih x hx).2 (h.2 x hx)⟩⟩
/-- The variable that a part names is there, with a size as the part wants it. -/
def dimsB (g : EmL) (x : KE) : Bool :=
  if x.kind = 2 then decide (x.v < g.vars.length ∧ (g.vars.getD x.v.toNat ⟨0, 0⟩).dim = 0)
  else if x.kind = 3 then decide (x.v < g.vars.length ∧ ¬ (g.vars.getD x.v.toNat ⟨0, 0⟩).dim = 0) else true
/-- The variable that a part names has an offset that is a word. -/
def liesB (g : EmL) (x : KE) : Bool := if x.kind = 2 ∨ x.kind = 3 then offB g x.v else true
theorem dims_bad {g : EmL} {x : KE} (h : dimsB g x = true) (hk : x.kind = 2 ∨ x.kind = 3) : badB g x.kind x.v = false := by
  unfold dimsB at h
  unfold badB
  rcases hk with hk | hk
  all_goals
    rw [hk] at h ⊢
    have h2 := of_decide_eq_true h
    have h1 : ¬ (g.vars.length : Int) ≤ x.v := by omega
    have h3 := h2.2
    generalize (g.vars.getD x.v.toNat ⟨0, 0⟩).dim = D at *
    simp [h1, h3]
theorem knownL_all (g : EmL) : ∀ (l : List KE) (p : Bool × Bool), knownL g p l = (p.1 && l.all (fun x => (knownE g x).1), p.2 && l.all (fun x => (knownE g x).2))
  | [], p => by rw [knownL]; simp
  | x :: l, p => by rw [knownL, knownL_all g l]; simp [Bool.and_assoc]
theorem known_tt {g : EmL} (e : KE) (h1 : allE (dimsB g) e = true) (h2 : allE (liesB g) e = true) : knownE g e = (true, true) := by
  induction e using KE.ind with
  | h e ih =>
    rw [allE_eq, Bool.and_eq_true, allL_iff] at h1 h2
    have hl : ∀ p : Bool × Bool, knownL g p e.l = p := fun p => by
      rw [knownL_all]
      have a1 : e.l.all (fun x => (knownE g x).1) = true := List.all_eq_true.2 fun x hx => by rw [ih x hx (h1.2 x hx) (h2.2 x hx)]
      have a2 : e.l.all (fun x => (knownE g x).2) = true := List.all_eq_true.2 fun x hx => by rw [ih x hx (h1.2 x hx) (h2.2 x hx)]
      rw [a1, a2, Bool.and_true, Bool.and_true]
    rw [knownE_eq, hl, hl]
    by_cases hk : e.kind = 2 ∨ e.kind = 3
    · rw [if_pos hk, if_neg (by rw [dims_bad h1.1 hk]; decide)]
      have := h2.1
      unfold liesB at this
      rw [if_pos hk] at this
      rw [this]
    · rw [if_neg hk]
/-- How many words a part's own variable and the temporaries need. -/
def offs0 (g : EmL) (t : Int) (x : KE) : Option Int :=
  if x.kind = 2 ∨ x.kind = 3 then match varL g.s g.frame x.v with
    | none => none
    | some a => if a < 0 ∨ 65536 < a then none else some (max (t + tempsV x) (a + max 1 (g.vars.getD x.v.toNat ⟨0, 0⟩).dim))
  else some (t + tempsV x)
def upO (a b : Option Int) : Option Int := match a, b with
  | some n, some m => some (max n m)
  | _, _ => none
mutual
def offsE (g : EmL) (t : Int) : KE → Option Int
  | ⟨k, o, tk, n, v, A, c, l⟩ => offsL g t (offs0 g t ⟨k, o, tk, n, v, A, c, l⟩) l
def offsL (g : EmL) (t : Int) (a : Option Int) : List KE → Option Int
  | [] => a
  | x :: l => offsL g t (upO a (offsE g t x)) l
end
theorem offsE_eq (g : EmL) (t : Int) (e : KE) : offsE g t e = offsL g t (offs0 g t e) e.l := by
  obtain ⟨k, o, tk, n, v, A, c, l⟩ := e
  rw [offsE]
theorem offsL_snoc (g : EmL) (t : Int) : ∀ (l : List KE) (a : Option Int) (x : KE), offsL g t a (l ++ [x]) = upO (offsL g t a l) (offsE g t x)
  | [], a, x => by rw [List.nil_append, offsL, offsL, offsL]
  | y :: l, a, x => by rw [List.cons_append, offsL, offsL, offsL_snoc g t l]
theorem upO_some {a b : Option Int} {n : Int} (h : upO a b = some n) : ∃ i j, a = some i ∧ b = some j ∧ n = max i j := by
  unfold upO at h
  split at h
  · exact ⟨_, _, rfl, rfl, (Option.some.inj h).symm⟩
  · cases h
theorem offsL_none (g : EmL) (t : Int) : ∀ (l : List KE), offsL g t none l = none
  | [] => by rw [offsL]
  | x :: l => by rw [offsL]; exact offsL_none g t l
theorem offsL_some (g : EmL) (t : Int) : ∀ {l : List KE} {a : Option Int} {n : Int}, offsL g t a l = some n → (∃ i, a = some i ∧ i ≤ n) ∧ ∀ x ∈ l, ∃ j, offsE g t x = some j ∧ j ≤ n
  | [], a, n, h => by rw [offsL] at h; exact ⟨⟨n, h, Int.le_refl _⟩, by simp⟩
  | x :: l, a, n, h => by
    rw [offsL] at h
    obtain ⟨⟨i, hi, hin⟩, h2⟩ := offsL_some g t h
    obtain ⟨p, q, h3, h4, h5⟩ := upO_some hi
    refine ⟨⟨p, h3, by omega⟩, ?_⟩
    intro y hy
    rcases List.mem_cons.1 hy with rfl | hy
    · exact ⟨q, h4, by omega⟩
    · exact h2 y hy
/-- Each part's own need is within the whole one's. -/
theorem offsE_all {g : EmL} {t : Int} (e : KE) : ∀ {n : Int}, offsE g t e = some n → e.all (fun x => ∃ m, offs0 g t x = some m ∧ m ≤ n) := by
  induction e using KE.ind with
  | h e ih =>
    intro n h
    rw [offsE_eq] at h
    obtain ⟨h1, h2⟩ := offsL_some g t h
    rw [KE.all_iff]
    refine ⟨h1, ?_⟩
    intro x hx
    obtain ⟨j, hj, hjn⟩ := h2 x hx
    exact KE.all_imp (fun y ⟨m, h3, h4⟩ => ⟨m, h3, by omega⟩) x (ih x hx hj)
theorem offsL_cut (g : EmL) (t : Int) {a : Option Int} {l : List KE} {k : Nat} {x : KE} (hx : l[k]? = some x) (h : offsE g t x = none) : offsL g t a l = none := by
  cases hl : offsL g t a l with
  | none => rfl
  | some n => obtain ⟨j, hj, -⟩ := (offsL_some g t hl).2 x (List.mem_of_getElem? hx); rw [h] at hj; cases hj
theorem offs0_le {g : EmL} {t n : Int} {x : KE} (h : offs0 g t x = some n) : t + tempsV x ≤ n := by
  unfold offs0 at h
  split at h
  · split at h
    · cases h
    · split at h
      · cases h
      · have := Option.some.inj h; omega
  · have := Option.some.inj h; omega
theorem offs0_var {g : EmL} {t n : Int} {x : KE} (h : offs0 g t x = some n) (hk : x.kind = 2 ∨ x.kind = 3) :
    ∃ a, varL g.s g.frame x.v = some a ∧ 0 ≤ a ∧ a ≤ 65536 ∧ a + max 1 (g.vars.getD x.v.toNat ⟨0, 0⟩).dim ≤ n := by
  unfold offs0 at h
  rw [if_pos hk] at h
  split at h
  · cases h
  · rename_i a ha
    split at h
    · cases h
    · have := Option.some.inj h; exact ⟨a, ha, by omega, by omega, by omega⟩
end Go.Proofs.YtbefmlioampgcaaGreatDoor

/- What mark lays into the words; plain. -/
namespace Go.Proofs.YtbefmlioampgcaaGreatDoor
open Go.RowKit
set_option linter.unusedVariables false
set_option linter.unusedSimpArgs false

/-- The values of a variable, and where they lie. -/
structure RwL where
  A : Option Addr
  c : Nat
  l : List Int
instance : Inhabited RwL := ⟨⟨none, 0, []⟩⟩
def RwL.cells (r : RwL) : List Value := [.slice r.A r.l.length r.c]
def rwsC (l : List RwL) : List Value := l.flatMap RwL.cells
def RwL.In (w : World) (B : Nat) (r : RwL) : Prop := lenOk r.l ∧ Reads w B 1 r.A r.l.length (wordsC r.l) ∧ ∀ v ∈ r.l, is32 v
def rwsIn (w : World) (B : Nat) (A : Option Addr) (l : List RwL) : Prop := lenOk l ∧ Reads w B 1 A l.length (rwsC l) ∧ ∀ r ∈ l, r.In w B
theorem RwL.In.below {w w' : World} {B : Nat} {r : RwL} (h : r.In w B) (hb : Below B w w') : r.In w' B := ⟨h.1, h.2.1.below hb, h.2.2⟩
theorem rwsIn.below {w w' : World} {B : Nat} {A : Option Addr} {l : List RwL} (h : rwsIn w B A l) (hb : Below B w w') : rwsIn w' B A l :=
  ⟨h.1, h.2.1.below hb, fun r hr => (h.2.2 r hr).below hb⟩
theorem rws_at {w : World} {B : Nat} {A : Option Addr} {l : List RwL} (h : rwsIn w B A l) {k : Nat} (hk : k < l.length) :
    ∃ b off r, A = some ⟨b, off, none⟩ ∧ b < B ∧ l[k]? = some r ∧ r.In w B ∧ w.cell? ⟨b, off + k, none⟩ = some (.slice r.A r.l.length r.c) := by
  obtain ⟨b, off, x, h1, h2, h3, h4, hc⟩ := row_at (f := RwL.cells) (size := 1) (fun _ => rfl) (by decide) h.2.1 hk
  have := hc 0 _ rfl
  rw [Nat.mul_one, Nat.add_zero] at this
  exact ⟨b, off, x, h1, h2, h3, h.2.2 _ h4, this⟩
theorem rw_at {w : World} {B : Nat} {r : RwL} (h : r.In w B) {k : Nat} (hk : k < r.l.length) :
    ∃ b off v, r.A = some ⟨b, off, none⟩ ∧ b < B ∧ r.l[k]? = some v ∧ is32 v ∧ w.cell? ⟨b, off + k, none⟩ = some (.int .i32 v) := by
  obtain ⟨b, off, rfl', hb, hc⟩ := h.2.1.addr (by omega) (by omega)
  have hv : r.l[k]? = some r.l[k] := List.getElem?_eq_getElem hk
  exact ⟨b, off, r.l[k], rfl', hb, hv, h.2.2 _ (List.getElem_mem hk), hc k _ (wordsC_get hv)⟩
/-- The values of the variables fit their kinds and sizes. -/
def storeB : List KVar → List RwL → Bool
  | [], [] => true
  | x :: vs, r :: rs => decide ((r.l.length : Int) = max 1 x.dim) && r.l.all (fun v => fitW x.kind v) && storeB vs rs
  | _, _ => false
theorem storeB_len : ∀ {vs : List KVar} {rs : List RwL}, storeB vs rs = true → rs.length = vs.length
  | [], [], _ => rfl
  | [], _ :: _, h => by simp [storeB] at h
  | _ :: _, [], h => by simp [storeB] at h
  | x :: vs, r :: rs, h => by
    simp only [storeB, Bool.and_eq_true] at h
    simp [storeB_len h.2]
theorem storeB_iff : ∀ {vs : List KVar} {rs : List RwL}, rs.length = vs.length → (storeB vs rs = true ↔ ∀ (k : Nat) (x : KVar) (r : RwL), vs[k]? = some x → rs[k]? = some r → (r.l.length : Int) = max 1 x.dim ∧ r.l.all (fun v => fitW x.kind v) = true)
  | [], [], _ => by simp [storeB]
  | [], _ :: _, h => by simp at h
  | _ :: _, [], h => by simp at h
  | x :: vs, r :: rs, h => by
    simp only [List.length_cons, Nat.add_right_cancel_iff] at h
    simp only [storeB, Bool.and_eq_true, decide_eq_true_eq, storeB_iff h]
    constructor
    · rintro ⟨⟨h1, h2⟩, h3⟩ k y q hy hq
      cases k with
      | zero => simp at hy hq; subst hy hq; exact ⟨h1, h2⟩
      | succ k => exact h3 k y q (by simpa using hy) (by simpa using hq)
    · intro h1
      exact ⟨h1 0 x r rfl rfl, fun k y q hy hq => h1 (k + 1) y q (by simpa using hy) (by simpa using hq)⟩
/-- The words, and whose each of them is. -/
abbrev Wo := List Int × List Int
/-- The values of variable v from word a on. -/
def putV (v : Int) : Nat → List Int → Wo → Option Wo
  | _, [], s => some s
  | a, x :: xs, s => if s.2.getD a 0 ≠ 0 ∧ s.2.getD a 0 ≠ v + 1 then none else putV v (a + 1) xs (s.1.set a x, s.2.set a (v + 1))
def varD (g : EmL) (v : Int) : Int := (varL g.s g.frame v).getD 0
def mark0 (g : EmL) (st : List RwL) (x : KE) (s : Wo) : Option Wo :=
  if x.kind = 2 ∨ x.kind = 3 then putV x.v (varD g x.v).toNat (st.getD x.v.toNat default).l s else some s
mutual
def markE (g : EmL) (st : List RwL) : KE → Wo → Option Wo
  | ⟨k, o, t, n, v, A, c, l⟩, s => match mark0 g st ⟨k, o, t, n, v, A, c, l⟩ s with
    | none => none
    | some s => markL g st l s
def markL (g : EmL) (st : List RwL) : List KE → Wo → Option Wo
  | [], s => some s
  | x :: l, s => match markE g st x s with
    | none => none
    | some s => markL g st l s
end
theorem markE_eq (g : EmL) (st : List RwL) (e : KE) (s : Wo) : markE g st e s = match mark0 g st e s with
    | none => none
    | some s => markL g st e.l s := by
  obtain ⟨k, o, t, n, v, A, c, l⟩ := e
  rw [markE]
theorem putV_len {v : Int} : ∀ {xs : List Int} {a : Nat} {s s' : Wo}, putV v a xs s = some s' → s'.1.length = s.1.length ∧ s'.2.length = s.2.length
  | [], a, s, s', h => by rw [putV] at h; obtain rfl := Option.some.inj h; exact ⟨rfl, rfl⟩
  | x :: xs, a, s, s', h => by
    rw [putV] at h
    split at h
    · cases h
    · have := putV_len h; simpa using this
theorem putV_32 {v : Int} : ∀ {xs : List Int} {a : Nat} {s s' : Wo}, (∀ x ∈ xs, is32 x) → (∀ x ∈ s.1, is32 x) → putV v a xs s = some s' → ∀ x ∈ s'.1, is32 x
  | [], a, s, s', _, h1, h => by rw [putV] at h; obtain rfl := Option.some.inj h; exact h1
  | x :: xs, a, s, s', h0, h1, h => by
    rw [putV] at h
    split at h
    · cases h
    · refine putV_32 (fun y hy => h0 y (by simp [hy])) ?_ h
      intro y hy
      rcases List.mem_or_eq_of_mem_set hy with hy | rfl
      · exact h1 y hy
      · exact h0 y (by simp)
/-- The words of a run: as long as before, each a word. -/
def WoOk (n : Nat) (s : Wo) : Prop := s.1.length = n ∧ s.2.length = n ∧ ∀ x ∈ s.1, is32 x
theorem mark0_ok {g : EmL} {st : List RwL} (hst : ∀ r ∈ st, ∀ v ∈ r.l, is32 v) {n : Nat} {x : KE} {s s' : Wo} (hs : WoOk n s) (h : mark0 g st x s = some s') : WoOk n s' := by
  unfold mark0 at h
  split at h
  · refine ⟨(putV_len h).1.trans hs.1, (putV_len h).2.trans hs.2.1, putV_32 ?_ hs.2.2 h⟩
    rw [List.getD_eq_getElem?_getD]
    cases hq : st[x.v.toNat]? with
    | none => intro y hy; simp [default] at hy
    | some r => exact hst r (List.mem_of_getElem? hq)
  · obtain rfl := Option.some.inj h; exact hs
theorem markL_ok {g : EmL} {st : List RwL} {n : Nat} : ∀ {l : List KE} (_ : ∀ x ∈ l, ∀ {s s' : Wo}, WoOk n s → markE g st x s = some s' → WoOk n s') {s s' : Wo}, WoOk n s → markL g st l s = some s' → WoOk n s'
  | [], _, s, s', hs, h => by rw [markL] at h; obtain rfl := Option.some.inj h; exact hs
  | x :: l, hl, s, s', hs, h => by
    rw [markL] at h
    cases hx : markE g st x s with
    | none => rw [hx] at h; cases h
    | some s1 =>
      rw [hx] at h
      exact markL_ok (fun y hy => hl y (by simp [hy])) (hl x (by simp) hs hx) h
theorem markE_ok {g : EmL} {st : List RwL} (hst : ∀ r ∈ st, ∀ v ∈ r.l, is32 v) {n : Nat} (e : KE) : ∀ {s s' : Wo}, WoOk n s → markE g st e s = some s' → WoOk n s' := by
  induction e using KE.ind with
  | h e ih =>
    intro s s' hs h
    rw [markE_eq] at h
    cases hx : mark0 g st e s with
    | none => rw [hx] at h; cases h
    | some s1 =>
      rw [hx] at h
      exact markL_ok (fun y hy => ih y hy) (mark0_ok hst hs hx) h
theorem markL_snoc (g : EmL) (st : List RwL) : ∀ (l : List KE) (x : KE) (s : Wo), markL g st (l ++ [x]) s = match markL g st l s with
    | none => none
    | some s => markE g st x s
  | [], x, s => by
    have h : ∀ s, markL g st [] s = some s := fun s => by rw [markL]
    have h2 : markL g st [x] s = match markE g st x s with
      | none => none
      | some s => markL g st [] s := by rw [markL]
    rw [List.nil_append, h2, h]
    simp only [h]
    cases markE g st x s <;> rfl
  | y :: l, x, s => by
    rw [List.cons_append, markL, markL]
    cases markE g st y s with
    | none => rfl
    | some s => simp only; exact markL_snoc g st l x s
theorem markL_fail (g : EmL) (st : List RwL) : ∀ {l : List KE} {k : Nat} {x : KE} {s s1 : Wo}, l[k]? = some x → markL g st (l.take k) s = some s1 → markE g st x s1 = none → markL g st l s = none
  | [], k, x, s, s1, h, _, _ => by simp at h
  | y :: l, 0, x, s, s1, h, h1, h2 => by
    simp at h; subst h
    rw [List.take_zero, markL] at h1
    obtain rfl := Option.some.inj h1
    rw [markL, h2]
  | y :: l, k + 1, x, s, s1, h, h1, h2 => by
    rw [List.take_succ_cons, markL] at h1
    rw [markL]
    cases hy : markE g st y s with
    | none => rfl
    | some s0 =>
      rw [hy] at h1
      simp only at h1 ⊢
      exact markL_fail g st (by simpa using h) h1 h2
end Go.Proofs.YtbefmlioampgcaaGreatDoor

/- GenexpSafe: what lay answers, and why the run has no fault then; plain. -/
namespace Go.Proofs.YtbefmlioampgcaaGreatDoor
open Go.RowKit
set_option linter.unusedVariables false
set_option linter.unusedSimpArgs false

/-- The arguments of Code are valid. -/
def validC (g : EmL) (e : KE) (temp : Int) : Bool :=
  validE e && decide (g.vars.length ≤ 256 ∧ 0 ≤ temp ∧ temp ≤ 65535) && labelB g.label && decide (g.label.length ≤ 24) && g.vars.all dimB && allE (dimsB g) e
theorem check_one {l : List UInt8} (h : labelB l = true) : checkE [⟨l, 4, 0, [], []⟩] = 0 := by
  have h1 : (findI 4 0).isSome = true := by decide +kernel
  have hv : validB ⟨l, 4, 0, [], []⟩ = true := by
    unfold validB
    simp only [h, Bool.or_true, List.isEmpty_nil, if_true, Bool.true_and]
    exact h1
  have ho : okL [⟨l, 4, 0, [], []⟩] 0 ⟨l, 4, 0, [], []⟩ = true := by
    unfold okL atL
    simp [List.findIdx?_cons]
  unfold checkE
  rw [if_pos (by simp only [List.all_cons, hv, List.all_nil, Bool.and_true]), if_pos]
  simp only [List.zipIdx_cons, List.zipIdx_nil, List.all_cons, List.all_nil, Bool.and_true]
  exact ho
theorem errC_0 {g : EmL} {e : KE} {temp : Int} (h : validC g e temp = true) (hl : allE (liesB g) e = true) : errC g e temp = 0 := by
  unfold validC at h
  simp only [Bool.and_eq_true] at h
  obtain ⟨⟨⟨⟨⟨h1, h2⟩, h3⟩, h4⟩, h5⟩, h6⟩ := h
  have h2 := of_decide_eq_true h2
  have h4 := of_decide_eq_true h4
  have hk := known_tt e h6 hl
  have hne : g.label ≠ [] := by
    intro he
    rw [he] at h3
    cases h3
  unfold errC
  rw [if_neg, if_neg (by rw [h5]; decide), if_neg (by rw [hk]; decide), if_neg (by rw [hk]; decide)]
  rintro (h | h | h | h | h | h | h)
  · rw [h1] at h; cases h
  · omega
  · omega
  · omega
  · exact hne h
  · omega
  · exact h (check_one h3)
/-- How many words lay makes. -/
def layN (g : EmL) (e : KE) (temp : Int) (st : List RwL) : Option Int :=
  if greatG g = true then none else if validC g e temp = false then none else if allE (liesB g) e = false then none else if storeB g.vars st = false then none
  else match offsE g temp e with
    | none => none
    | some n => if 5000 < n then none else some n
def fillL (fill : Int) (n : Nat) : List Int := (List.range n).map fun i : Nat => wrap32 (fill + (i : Int))
def ownL (t k n : Nat) : List Int := (List.range n).map fun i => if t ≤ i ∧ i < t + k then -1 else 0
def layW (g : EmL) (e : KE) (temp : Int) (st : List RwL) (fill : Int) (n : Int) : Option Wo := markE g st e (fillL fill n.toNat, ownL temp.toNat (tempsV e) n.toNat)
theorem layN_some {g : EmL} {e : KE} {temp n : Int} {st : List RwL} (h : layN g e temp st = some n) :
    greatG g = false ∧ validC g e temp = true ∧ allE (liesB g) e = true ∧ storeB g.vars st = true ∧ offsE g temp e = some n ∧ n ≤ 5000 := by
  unfold layN at h
  split at h
  · cases h
  rename_i h1
  split at h
  · cases h
  rename_i h2
  split at h
  · cases h
  rename_i h3
  split at h
  · cases h
  rename_i h4
  split at h
  · cases h
  rename_i m hm
  split at h
  · cases h
  obtain rfl := Option.some.inj h
  exact ⟨by simpa using h1, by simpa using h2, by simpa using h3, by simpa using h4, hm, by omega⟩
theorem fillL_32 (fill : Int) (n : Nat) : ∀ x ∈ fillL fill n, is32 x := by
  intro x hx
  obtain ⟨i, -, rfl⟩ := List.mem_map.1 hx
  unfold is32 wrap32
  omega
theorem wo_ok (fill : Int) (t k n : Nat) : WoOk n (fillL fill n, ownL t k n) := ⟨by simp [fillL], by simp [ownL], fillL_32 fill n⟩
theorem validC_e {g : EmL} {e : KE} {temp : Int} (h : validC g e temp = true) : validE e = true ∧ 0 ≤ temp ∧ temp ≤ 65535 ∧ g.vars.length ≤ 256 := by
  unfold validC at h
  simp only [Bool.and_eq_true] at h
  have := of_decide_eq_true h.1.1.1.1.2
  exact ⟨h.1.1.1.1.1, by omega, by omega, by omega⟩
end Go.Proofs.YtbefmlioampgcaaGreatDoor

/- Label of the reference, walked. -/
namespace Go.Proofs.YtbefmlioampgcaaGreatDoor
open Go.RowKit Go.Maps Go.WideMaps Go.Shelf
set_option linter.unusedSimpArgs false
set_option linter.unusedVariables false

theorem letter_cases (c : UInt8) : let n := (c.toNat : Int)
    (97 ≤ n ∧ n ≤ 122 ∧ letterB c = true) ∨ (97 ≤ n ∧ ¬ n ≤ 122 ∧ 65 ≤ n ∧ ¬ n ≤ 90 ∧ letterB c = false) ∨ (¬ 97 ≤ n ∧ 65 ≤ n ∧ n ≤ 90 ∧ letterB c = true) ∨
    (¬ 97 ≤ n ∧ 65 ≤ n ∧ ¬ n ≤ 90 ∧ letterB c = false) ∨ (¬ 97 ≤ n ∧ ¬ 65 ≤ n ∧ letterB c = false) := by
  have h : ∀ n : Nat, n < 256 → ((97 ≤ (n : Int) ∧ (n : Int) ≤ 122 ∧ letterB (UInt8.ofNat n) = true) ∨ (97 ≤ (n : Int) ∧ ¬ (n : Int) ≤ 122 ∧ 65 ≤ (n : Int) ∧ ¬ (n : Int) ≤ 90 ∧ letterB (UInt8.ofNat n) = false) ∨ (¬ 97 ≤ (n : Int) ∧ 65 ≤ (n : Int) ∧ (n : Int) ≤ 90 ∧ letterB (UInt8.ofNat n) = true) ∨
    (¬ 97 ≤ (n : Int) ∧ 65 ≤ (n : Int) ∧ ¬ (n : Int) ≤ 90 ∧ letterB (UInt8.ofNat n) = false) ∨ (¬ 97 ≤ (n : Int) ∧ ¬ 65 ≤ (n : Int) ∧ letterB (UInt8.ofNat n) = false)) := by decide +kernel
  have := h c.toNat c.toNat_lt_size
  rwa [UInt8.ofNat_toNat] at this
theorem other_cases (c : UInt8) : let n := (c.toNat : Int)
    (48 ≤ n ∧ n ≤ 57 ∧ otherB c = true) ∨ (48 ≤ n ∧ ¬ n ≤ 57 ∧ (n == 46) = false ∧ otherB c = false) ∨ (¬ 48 ≤ n ∧ (n == 46) = true ∧ otherB c = true) ∨ (¬ 48 ≤ n ∧ (n == 46) = false ∧ otherB c = false) := by
  have h : ∀ n : Nat, n < 256 → ((48 ≤ (n : Int) ∧ (n : Int) ≤ 57 ∧ otherB (UInt8.ofNat n) = true) ∨ (48 ≤ (n : Int) ∧ ¬ (n : Int) ≤ 57 ∧ ((n : Int) == 46) = false ∧ otherB (UInt8.ofNat n) = false) ∨ (¬ 48 ≤ (n : Int) ∧ ((n : Int) == 46) = true ∧ otherB (UInt8.ofNat n) = true) ∨
    (¬ 48 ≤ (n : Int) ∧ ((n : Int) == 46) = false ∧ otherB (UInt8.ofNat n) = false)) := by decide +kernel
  have := h c.toNat c.toNat_lt_size
  rwa [UInt8.ofNat_toNat] at this
theorem bytes_at {S : ByteArray} {k : Nat} (h : k < S.size) : ∃ d, S.data.toList[k]? = some d ∧ S[k] = d := by
  have hl : k < S.data.toList.length := by rw [str_size]; exact h
  refine ⟨S.data.toList[k], List.getElem?_eq_getElem hl, ?_⟩
  simp [ByteArray.getElem_eq_getElem_data]
set_option maxRecDepth 100000 in
set_option maxHeartbeats 4000000 in
theorem rLabel (S : ByteArray) (hs : S.size ≤ 281474976710656) (w : World) : Calls Tryz.prog 30 #[.string S] w (RetV (.bool (labelB S.data.toList)) w) := by
  have HS := Lib.hid hs
  go_enter Tryz.func30, Tryz.ntmps30
  go_wp2
  go_loop [3] (fun p => ∃ i : Nat, i ≤ S.size ∧ p = .int .i64 (i : Int) ∧ Hid (∀ j c, j < i → S.data.toList[j]? = some c → fitB j c = true)) (fun p => S.size - (intOf p).toNat)
  case atStart => exact ⟨0, by omega, rfl, Lib.hid (by intro j c h; omega)⟩
  case round =>
    obtain ⟨i, hi, rfl, Hi⟩ := hrel
    by_cases hlt : i < S.size
    · have hltI : (i : Int) < S.size := by omega
      have hi0 : (0 : Int) ≤ i := by omega
      obtain ⟨c, hcg, hget⟩ := bytes_at hlt
      have HG := Lib.hid hcg
      have w1 : IntKind.i64.wrap ((i : Int) + 1) = (i : Int) + 1 := IntWalk.i64_in _ (by have := HS.out; omega)
      clear hcg hs
      have on : fitB i c = true → ∀ j d, j < i + 1 → S.data.toList[j]? = some d → fitB j d = true := by
        intro hf j d hj hd
        by_cases h : j = i
        · subst h; rw [HG.out] at hd; injection hd with hd; subst hd; exact hf
        · exact Hi.out j d (by omega) hd
      have no : fitB i c = false → labelB S.data.toList = false := fun hf => label_no HG.out hf
      have ON := Lib.hid on
      have NO := Lib.hid no
      clear on no
      have hl := letter_cases c
      have ho := other_cases c
      simp only at hl ho
      have hiz : ((i : Int) == 0) = true ∨ ((i : Int) == 0) = false := by cases ((i : Int) == 0) <;> simp
      have hizn : ((i : Int) == 0) = (i == 0) := by rw [Bool.eq_iff_iff]; simp
      have HZ := Lib.hid hizn
      clear hizn
      have hfit : fitB i c = (letterB c || (!(i == 0) && otherB c)) := rfl
      generalize letterB c = lb at *
      generalize otherB c = ob at *
      have HF := Lib.hid hfit
      clear hfit
      obtain ⟨m, hm⟩ : ∃ m, (c.toNat : Int) = m := ⟨_, rfl⟩
      rw [hm] at hl ho
      generalize fitB i c = ft at *
      go_upto_region 4 with (fail)
      go_cut [4] (fun s4 wx => s4 = .bool lb ∧ wx = w)
      case first =>
        rcases hl with ⟨h1, h2, h3⟩ | ⟨h1, h2, h4, h5, h3⟩ | ⟨h1, h2, h4, h3⟩ | ⟨h1, h2, h4, h3⟩ | ⟨h1, h2, h3⟩
        all_goals
          go_wp2
          go_meet
          exact ⟨by rw [h3], rfl⟩
      case rest =>
        obtain ⟨rfl, rfl⟩ := hcut
        go_upto_region 5 with (fail)
        go_cut [5] (fun s5 wx => s5 = .bool ob ∧ wx = wc)
        case first =>
          rcases ho with ⟨o1, o2, o3⟩ | ⟨o1, o2, o4, o3⟩ | ⟨o1, o2, o3⟩ | ⟨o1, o2, o3⟩
          all_goals
            go_wp2
            go_meet
            exact ⟨by rw [o3], rfl⟩
        case rest =>
          obtain ⟨rfl, rfl⟩ := hcut
          clear hl ho
          cases lb
          · rcases hiz with hz | hz
            · have hno := Lib.hid (NO.out (by rw [HF.out, ← HZ.out, hz]; rfl))
              clear NO ON HF HZ
              go_wp2
              go_ret
              exact ⟨by rw [hno.out]; rfl, Below.refl _ _⟩
            · cases ob
              · have hno := Lib.hid (NO.out (by rw [HF.out, ← HZ.out, hz]; rfl))
                clear NO ON HF HZ
                go_wp2
                go_ret
                exact ⟨by rw [hno.out]; rfl, Below.refl _ _⟩
              · have hon := Lib.hid (ON.out (by rw [HF.out, ← HZ.out, hz]; rfl))
                clear NO ON HF HZ
                go_wp2
                go_round
                case rel => exact ⟨i + 1, by omega, by go_num, hon⟩
                case measure => simp [intOf]; omega
          · have hon := Lib.hid (ON.out (by rw [HF.out]; rfl))
            clear NO ON HF HZ
            go_wp2
            go_round
            case rel => exact ⟨i + 1, by omega, by go_num, hon⟩
            case measure => simp [intOf]; omega
    · have hltI : ¬ (i : Int) < S.size := by omega
      obtain rfl : i = S.size := by omega
      have hend := label_end (S := S) Hi.out
      have HE := Lib.hid hend
      clear hend Hi
      by_cases h0 : 1 ≤ (S.size : Int)
      · have hlab : labelB S.data.toList = decide ((S.size : Int) ≤ 32) := by
          rw [HE.out]
          have h1 : (S.size == 0) = false := by rw [beq_eq_false_iff_ne]; omega
          have h2 : decide ((S.size : Int) ≤ 32) = decide (S.size ≤ 32) := by rw [decide_eq_decide]; omega
          rw [h1, h2]; rfl
        have HL := Lib.hid hlab
        clear hlab HE
        go_wp2
        go_ret
        exact ⟨by rw [HL.out]; rfl, Below.refl _ _⟩
      · have hlab : labelB S.data.toList = false := by
          rw [HE.out]
          have h1 : (S.size == 0) = true := by rw [beq_iff_eq]; omega
          rw [h1]; rfl
        have HL := Lib.hid hlab
        clear hlab HE
        go_wp2
        go_ret
        exact ⟨by rw [HL.out]; rfl, Below.refl _ _⟩
theorem rLab (l : List UInt8) (h : l.length ≤ 281474976710656) (w : World) : Calls Tryz.prog 30 #[.string (strB l)] w (RetV (.bool (labelB l)) w) := by
  have := rLabel (strB l) (by rw [strB_size]; exact h) w
  rwa [show (strB l).data.toList = l by simp [strB]] at this
end Go.Proofs.YtbefmlioampgcaaGreatDoor
