/- Texts that belong together, joined: what each one holds is told ahead of it. -/
import Derived.Test.YtbefmlioampgcaaGreatDoorHK3
import Derived.Test.YtbefmlioampgcaaGreatDoorHK30
set_option linter.unusedVariables false
set_option linter.unusedSimpArgs false
/- What an operator, or a conversion, makes of words; plain. -/
namespace Go.Proofs.YtbefmlioampgcaaGreatDoor
open Go.RowKit
set_option linter.unusedVariables false
set_option linter.unusedSimpArgs false

def someO (p : Int × Bool) : Option Int := if p.2 then none else some p.1
def bit01 (a : Int) : Bool := a == 0 || a == 1
/-- What an operator makes of two words (or of the first one). -/
def applyO (o : Nat) (a b : Int) : Option Int :=
  if o = 0 then none
  else if o ≤ 13 then (binO (singleO o) a b).bind someO
  else if o = 14 then some (truthL (a == b))
  else if o = 15 then some (truthL (a != b))
  else if o = 16 then some (truthL (decide (a < b)))
  else if o = 17 then some (truthL (decide (b < a)))
  else if o = 18 then some (truthL (decide (a ≤ b)))
  else if o = 19 then some (truthL (decide (b ≤ a)))
  else if o = 20 then (if bit01 a && bit01 b then some (truthL (a == 1 && b == 1)) else none)
  else if o = 21 then (if bit01 a && bit01 b then some (truthL (a == 1 || b == 1)) else none)
  else if o = 22 then some (truthL (decide (0 < wrap32 (a - b))))
  else if o = 23 then someO (wrap32 (0 - a), wrap32 (0 - a) != 0 - a)
  else if o = 24 then some (wrap32 (0 - a))
  else if o = 25 then some (-1 - a)
  else if o = 26 then (if bit01 a then some (truthL (a == 0)) else none)
  else none
/-- A value converted to a kind, if it fits. -/
def convO (t : Nat) (v : Int) : Option Int := if t = 1 ∨ (t = 2 ∧ 0 ≤ v ∧ v ≤ 255) ∨ (t = 3 ∧ 0 ≤ v ∧ v ≤ 1) then some v else none
theorem w32_id {z : Int} (h : -2147483648 ≤ z ∧ z ≤ 2147483647) : wrap32 z = z := by unfold wrap32; omega
end Go.Proofs.YtbefmlioampgcaaGreatDoor

/- What an expression's value is; the run of single lines; plain. -/
namespace Go.Proofs.YtbefmlioampgcaaGreatDoor
open Go.RowKit
set_option linter.unusedVariables false
set_option linter.unusedSimpArgs false

/-- An element of a store, if there is one. -/
def atV (ss : List RwL) (v i : Int) : Option Int :=
  if v < 0 ∨ (ss.length : Int) ≤ v ∨ i < 0 ∨ ((ss.getD v.toNat default).l.length : Int) ≤ i then none else some ((ss.getD v.toNat default).l.getD i.toNat 0)
def oneV (ss : List RwL) (k o tk : Nat) (v : Int) (x : Int) : Option Int :=
  if k = 3 then atV ss v x else if k = 4 then applyO o x 0 else if k = 6 then convO tk x else none
mutual
/-- The value of a valid expression. -/
def valueE (ss : List RwL) : KE → Option Int
  | ⟨k, o, tk, n, v, _, _, l⟩ => match l with
    | [] => if k = 1 then some n else if k = 2 then atV ss v 0 else none
    | [a] => match valueE ss a with
      | none => none
      | some x => oneV ss k o tk v x
    | a :: b :: _ => match valueE ss a with
      | none => none
      | some x => if (o = 20 ∧ x = 0) ∨ (o = 21 ∧ x = 1) then some x else match valueE ss b with
        | none => none
        | some y => applyO o x y
end
theorem valueE_0 {ss : List RwL} {e : KE} (h : e.l = []) : valueE ss e = if e.kind = 1 then some e.n else if e.kind = 2 then atV ss e.v 0 else none := by
  obtain ⟨k, o, tk, num, v, A, c, l⟩ := e
  simp only at h
  subst h
  rw [valueE]
theorem valueE_1 {ss : List RwL} {e a : KE} (h : e.l = [a]) : valueE ss e = match valueE ss a with
    | none => none
    | some x => oneV ss e.kind e.oper e.tk e.v x := by
  obtain ⟨k, o, tk, num, v, A, c, l⟩ := e
  simp only at h
  subst h
  rw [valueE]
theorem valueE_2 {ss : List RwL} {e a b : KE} {r : List KE} (h : e.l = a :: b :: r) : valueE ss e = match valueE ss a with
    | none => none
    | some x => if (e.oper = 20 ∧ x = 0) ∨ (e.oper = 21 ∧ x = 1) then some x else match valueE ss b with
      | none => none
      | some y => applyO e.oper x y := by
  obtain ⟨k, o, tk, num, v, A, c, l⟩ := e
  simp only at h
  subst h
  rw [valueE]
section
variable {l : List LineL} {r : RegL} {m : List Int}
theorem run_ldc (k : Int) : runS (lnF 4 k :: l) none r m = runS l none (r.push k) m := by rw [runS]; simp [stepO, accessB, plainO, lnF]
theorem run_ldlp (k : Int) : runS (lnF 1 k :: l) none r m = runS l none (r.push (wrap32 (4 * k))) m := by rw [runS]; simp [stepO, accessB, plainO, lnF]
theorem run_eqc (s : List UInt8) (k : Int) : runS (⟨s, 12, k, [], []⟩ :: l) none r m = runS l none ⟨truthL (r.a == k), r.b, r.c, r.e⟩ m := by rw [runS]; simp [stepO, accessB, plainO]
theorem run_eqc' (k : Int) : runS (lnF 12 k :: l) none r m = runS l none ⟨truthL (r.a == k), r.b, r.c, r.e⟩ m := run_eqc [] k
theorem run_adc0 (s : List UInt8) (h : is32 r.a) : runS (⟨s, 8, 0, [], []⟩ :: l) none r m = runS l none r m := by
  rw [runS]
  have hw : wrap32 r.a = r.a := by unfold is32 at h; unfold wrap32; omega
  simp [stepO, accessB, plainO, hw]
theorem run_op (q : Int) : runS (lnO q :: l) none r m = runS l none ((opR r q).getD r) m := by rw [runS]; simp [stepO, accessB, plainO, lnF, lnO]
theorem run_ldl {k : Nat} {v : Int} (h : m[k]? = some v) : runS (lnF 7 (k : Int) :: l) none r m = runS l none (r.push v) m := by
  have hk := (List.getElem?_eq_some_iff.1 h).1
  rw [runS]
  have h2 : m.getD k 0 = v := by rw [List.getD_eq_getElem?_getD, h]; rfl
  have hw : wordK (lnF 7 (k : Int)) r = (k : Int) := by unfold wordK; rw [if_neg (by simp [lnF])]; rfl
  have hm : moveO (lnF 7 (k : Int)) r m = some (r.push v, m) := by
    unfold moveO
    rw [hw, if_neg (by omega), if_pos (by simp [lnF]), Int.toNat_natCast, h2]
  have hs : stepO (lnF 7 (k : Int)) r m = .go (r.push v) m := by
    unfold stepO
    rw [if_neg (by simp [lnF]), if_pos (by simp [accessB, lnF]), hm]
  simp [hs]
theorem run_stl {k : Nat} (h : k < m.length) : runS (lnF 13 (k : Int) :: l) none r m = runS l none r.pop (m.set k r.a) := by
  rw [runS]
  have hw : wordK (lnF 13 (k : Int)) r = (k : Int) := by unfold wordK; rw [if_neg (by simp [lnF])]; rfl
  have hm : moveO (lnF 13 (k : Int)) r m = some (r.pop, m.set k r.a) := by
    unfold moveO
    rw [hw, if_neg (by omega), if_neg (by simp [lnF]), if_neg (by simp [lnF]), Int.toNat_natCast]
  have hs : stepO (lnF 13 (k : Int)) r m = .go r.pop (m.set k r.a) := by
    unfold stepO
    rw [if_neg (by simp [lnF]), if_pos (by simp [accessB, lnF]), hm]
  simp [hs]
theorem run_ldnl {k : Nat} {v : Int} (h : m[k]? = some v) (ha : wrap32 (r.a + wrap32 (4 * 0)) / 4 = (k : Int)) : runS (lnF 3 0 :: l) none r m = runS l none ⟨v, r.b, r.c, r.e⟩ m := by
  have hk := (List.getElem?_eq_some_iff.1 h).1
  rw [runS]
  have h2 : m.getD k 0 = v := by rw [List.getD_eq_getElem?_getD, h]; rfl
  have hm : moveO (lnF 3 0) r m = some (⟨v, r.b, r.c, r.e⟩, m) := by
    unfold moveO wordK
    simp only [lnF, if_true]
    rw [ha, if_neg (by omega), if_neg (by decide), Int.toNat_natCast, h2]
  have hs : stepO (lnF 3 0) r m = .go ⟨v, r.b, r.c, r.e⟩ m := by
    unfold stepO
    rw [if_neg (by simp [lnF]), if_pos (by simp [accessB, lnF]), hm]
  simp [hs]
theorem run_stop : runS (lnJ stopT :: l) none r m = if r.a ≠ 0 then runS l none r.pop m else (0, true, 0) := by
  rw [runS]
  by_cases h : r.a = 0 <;> simp [stepO, lnJ, h]
end
end Go.Proofs.YtbefmlioampgcaaGreatDoor

/- The code of an expression, once the error flag is set: it stays set, or the run stops; plain. -/
namespace Go.Proofs.YtbefmlioampgcaaGreatDoor
open Go.RowKit
set_option linter.unusedVariables false
set_option linter.unusedSimpArgs false

/-- The run is over with a fault, or comes to what is left with the flag set. -/
def BadOut (M : Nat) (rest : List LineL) (o : Int × Bool × Int) : Prop := o = (0, true, 0) ∨ ∃ r' m', o = runS rest none r' m' ∧ StL M r' m' ∧ r'.e = true
def Bad (M : Nat) (l : List LineL) : Prop := ∀ (rest : List LineL) (r : RegL) (m : List Int), StL M r m → r.e = true → BadOut M rest (runS (l ++ rest) none r m)
theorem BadOut.on {M : Nat} {b rest : List LineL} {o : Int × Bool × Int} (hb : Bad M b) (h : BadOut M (b ++ rest) o) : BadOut M rest o := by
  rcases h with h | ⟨r', m', h1, h2, h3⟩
  · exact .inl h
  · rw [h1]; exact hb rest r' m' h2 h3
theorem Bad.append {M : Nat} {a b : List LineL} (ha : Bad M a) (hb : Bad M b) : Bad M (a ++ b) := by
  intro rest r m hs he
  rw [List.append_assoc]
  exact BadOut.on hb (ha (b ++ rest) r m hs he)
theorem Bad.nil {M : Nat} : Bad M [] := fun rest r m hs he => .inr ⟨r, m, rfl, hs, he⟩
theorem Bad.thru {M : Nat} {l : List LineL} (h : Through M l) : Bad M l := by
  intro rest r m hs he
  obtain ⟨r', m', h1, h2, h3⟩ := h rest r m hs
  exact .inr ⟨r', m', h1, h2, h3.trans he⟩
theorem Bad.op {M : Nat} {q : Int} (h : q ≠ 41) : Bad M [lnO q] := by
  intro rest r m hs he
  refine .inr ⟨(opR r q).getD r, m, run_op q, ⟨?_, hs.2⟩, ?_⟩
  · cases ho : opR r q with
    | none => exact hs.1
    | some p => exact opR_ok hs.1 ho
  · unfold opR
    by_cases h0 : q = 0
    · rw [if_pos h0]; exact he
    · rw [if_neg h0]
      by_cases h5 : q = 50
      · rw [if_pos h5]; exact he
      · rw [if_neg h5]
        rw [if_neg h]
        cases hb : binO q r.b r.a with
        | none => exact he
        | some p => simp [RegL.join, he]
theorem Bad.f12 {M : Nat} : Bad M [lnF 12 0] := Bad.thru (Through.quiet (by
  intro x hx; simp at hx; subst hx; exact ⟨by simp only [lnF]; unfold is32; omega, .inr (.inl rfl)⟩))
theorem Bad.f4 {M : Nat} {k : Int} (h : is32 k) : Bad M [lnF 4 k] := Bad.thru (Through.quiet (by
  intro x hx; simp at hx; subst hx; exact ⟨h, .inl rfl⟩))
theorem Bad.all {M : Nat} : ∀ {l : List LineL}, (∀ x ∈ l, Bad M [x]) → Bad M l
  | [], _ => Bad.nil
  | x :: l, h => by
    have := (h x (by simp)).append (Bad.all (l := l) fun y hy => h y (by simp [hy]))
    simpa using this
theorem bad_oper {M o : Nat} : Bad M (operL o) := by
  refine Bad.all fun x hx => ?_
  have hs : singleO o ≠ 41 := by
    unfold singleO
    have h : ∀ q ∈ ([0, 5, 12, 83, 44, 31, 82, 4, 8, 70, 75, 51, 65, 64] : List Int), q ≠ 41 := by decide
    rw [List.getD_eq_getElem?_getD]
    cases hq : ([0, 5, 12, 83, 44, 31, 82, 4, 8, 70, 75, 51, 65, 64] : List Int)[o]? with
    | none => simp
    | some q => exact h q (List.mem_of_getElem? hq)
  have h0 : is32 0 := is32_0
  unfold operL at hx
  repeat' split at hx
  all_goals
    simp only [List.mem_cons, List.not_mem_nil, or_false] at hx
    first
      | (subst hx; first | exact Bad.op hs | exact Bad.op (by decide))
      | (rcases hx with rfl | rfl <;> first | exact Bad.op (by decide) | exact Bad.f12 | exact Bad.f4 h0)
      | (rcases hx with rfl | rfl | rfl <;> first | exact Bad.op (by decide) | exact Bad.f12 | exact Bad.f4 h0)
theorem bad_after {M : Nat} (env : CEnv) (k o tk : Nat) (v : Int) (hd : is32 (env.dim v)) : Bad M (afterL env k o tk v) := by
  have h0 : is32 0 := is32_0
  unfold afterL
  split
  · have h1 : Bad M ([lnF 4 (env.dim v)] ++ [lnO 19]) := (Bad.f4 hd).append (Bad.op (by decide))
    have h2 : Bad M ([lnO 41, lnJ stopT, lnF 1 (env.off v), lnO 10, lnF 3 0] : List LineL) := by
      intro rest r m hs he
      left
      simp only [List.cons_append, List.nil_append]
      rw [run_op, run_stop]
      have : (opR r 41).getD r = ⟨truthL (!r.e), r.a, r.b, false⟩ := by simp [opR]
      rw [this, he]
      simp [truthL]
    exact h1.append h2
  · repeat' split
    · exact (Bad.f4 h0).append ((Bad.op (by decide)).append (Bad.op (by decide)))
    · exact (Bad.f4 h0).append ((Bad.op (by decide)).append (Bad.op (by decide)))
    · exact Bad.op (by decide)
    · exact Bad.f12
    · exact (Bad.f4 (by unfold is32; omega)).append (Bad.op (by decide))
    · exact (Bad.f4 (by unfold is32; omega)).append (Bad.op (by decide))
    · exact Bad.nil
theorem bad_jump {M : Nat} {b : List LineL} {s : List UInt8} {z : LineL} (hb : Bad M b) (hz : quietL M z) (hzs : z.label = s) (hst : s ≠ stopT) (hn : ∀ x ∈ b, x.label ≠ s) : Bad M (lnJ s :: (b ++ [z])) := by
  intro rest r m hs he
  have hzb : Bad M [z] := Bad.thru (Through.quiet (by simpa using hz))
  rw [List.cons_append, runS]
  by_cases h : r.a = 0
  · have hj : stepO (lnJ s) r m = .jump s := by simp [stepO, lnJ, h, hst]
    simp only [Option.any_none, Bool.false_eq_true, if_false, hj]
    rw [runS_skip (b ++ [z] ++ rest) b.length s r m z (by simp) hzs ?_]
    · have := hzb rest r m hs he
      simpa using this
    · intro k x hk hx
      refine hn x ?_
      rw [List.append_assoc, List.getElem?_append_left hk] at hx
      exact List.mem_of_getElem? hx
  · have hj : stepO (lnJ s) r m = .go r.pop m := by simp [stepO, lnJ, h]
    simp only [Option.any_none, Bool.false_eq_true, if_false, hj]
    exact (hb.append hzb) rest r.pop m ⟨⟨hs.1.2.1, hs.1.2.2, hs.1.2.2⟩, hs.2⟩ he
theorem code_bad (env : CEnv) (hd : ∀ v, is32 (env.dim v)) (M : Nat) (hM : M ≤ 1000000) (e : KE) : e.all (fun x => fieldsB x = true) → e.all (offOk env M) → ∀ (t : Int) (n : Nat), 0 ≤ t → t + tempsE e ≤ M → Bad M (codeE env e t n).1 := by
  have h0 : is32 0 := is32_0
  induction e using KE.ind with
  | h e ih =>
    intro hall hoff t n ht0 htM
    have hf := (KE.all_iff.1 hall).1
    have hpa := (KE.all_iff.1 hall).2
    have hof := (KE.all_iff.1 hoff).1
    have hpo := (KE.all_iff.1 hoff).2
    have hk := fieldsB_kind hf
    match hl : e.l with
    | [] =>
      rw [hl] at hk
      simp at hk
      rw [codeE_0 env hl]
      refine Bad.thru (Through.quiet ?_)
      intro x hx
      split at hx
      · simp at hx; subst hx; exact ⟨hof.1, .inl rfl⟩
      · simp at hx; subst hx
        have := hof.2 (by omega)
        exact ⟨by simp only [lnF]; unfold is32; omega, .inr (.inr (.inr (.inr ⟨.inl rfl, this⟩)))⟩
    | [a] =>
      have ma : a ∈ e.l := by rw [hl]; simp
      rw [codeE_1 env hl]
      exact (ih a ma (hpa a ma) (hpo a ma) t n ht0 (by rw [(regsE_1 hl).2.1] at htM; exact htM)).append (bad_after env _ _ _ _ (hd _))
    | a :: b :: r =>
      have ma : a ∈ e.l := by rw [hl]; simp
      have mb : b ∈ e.l := by rw [hl]; simp
      have htt := (regsE_2 hl).2.1
      have hia := fun t n => ih a ma (hpa a ma) (hpo a ma) t n
      have hib := fun t n => ih b mb (hpa b mb) (hpo b mb) t n
      have hle : tempsE a ≤ tempsE e ∧ tempsE b ≤ tempsE e := by rw [htt]; split <;> omega
      rw [codeE_2 env hl]
      by_cases h20 : e.oper = 20 ∨ e.oper = 21
      · rw [if_pos h20]
        have hlab : ∀ (q : Nat), ∀ x ∈ (codeE env b t (q + 1)).1, x.label ≠ freshL env (q + 1) := by
          intro q x hx he
          have hm : x.label ∈ labs (codeE env b t (q + 1)).1 := mem_labs.2 ⟨by rw [he]; exact fresh_ne _ _, x, hx, rfl⟩
          obtain ⟨j, h1, h2, h3⟩ := (code_labs env b t (q + 1)).2.2 _ hm
          rw [he] at h3
          have := fresh_inj h3
          omega
        by_cases h21 : e.oper = 21
        · simp only [if_pos h21]
          refine (hia t n ht0 (by omega)).append (Bad.f12.append ?_)
          have hthr := bad_jump (M := M) (s := freshL env ((codeE env a t n).2 + 1)) (z := ⟨freshL env ((codeE env a t n).2 + 1), 12, 0, [], []⟩) (((hib t ((codeE env a t n).2 + 1)) ht0 (by omega)).append Bad.f12)
            ⟨h0, .inr (.inl rfl)⟩ rfl (fresh_stop _ _) (by
              intro x hx
              rcases List.mem_append.1 hx with hx | hx
              · exact hlab _ x hx
              · simp at hx
                subst hx
                simp only [lnF]
                exact fun h => fresh_ne _ _ h.symm)
          simpa using hthr
        · simp only [if_neg h21]
          refine (hia t n ht0 (by omega)).append ?_
          have hthr := bad_jump (M := M) (s := freshL env ((codeE env a t n).2 + 1)) (z := ⟨freshL env ((codeE env a t n).2 + 1), 8, 0, [], []⟩) ((hib t ((codeE env a t n).2 + 1)) ht0 (by omega))
            ⟨h0, .inr (.inr (.inl ⟨rfl, rfl⟩))⟩ rfl (fresh_stop _ _) (hlab _)
          simpa using hthr
      · rw [if_neg h20]
        by_cases h33 : regsE a = 3 ∧ regsE b = 3
        · rw [if_pos h33]
          have hta : tempsE a + 1 ≤ tempsE e := by rw [htt, if_pos ⟨by omega, by omega, h33.1, h33.2⟩]; omega
          have ht : ∀ f, (f = 13 ∨ f = 7) → Bad M [lnF f t] := fun f hf => Bad.thru (Through.quiet (by
            intro x hx; simp at hx; subst hx
            exact ⟨by simp only [lnF]; unfold is32; omega, .inr (.inr (.inr (.inr ⟨by simp only [lnF]; omega, by simp only [lnF]; omega⟩)))⟩))
          simp only
          exact (hib t n ht0 (by omega)).append ((ht 13 (.inl rfl)).append ((hia (t + 1) _ (by omega) (by omega)).append ((ht 7 (.inr rfl)).append bad_oper)))
        · rw [if_neg h33]
          by_cases hlt : regsE a < regsE b
          · rw [if_pos hlt]
            simp only
            exact (hib t n ht0 (by omega)).append ((hia t _ ht0 (by omega)).append ((Bad.op (by decide)).append bad_oper))
          · rw [if_neg hlt]
            simp only
            exact (hia t n ht0 (by omega)).append ((hib t _ ht0 (by omega)).append bad_oper)
end Go.Proofs.YtbefmlioampgcaaGreatDoor

/- What the lines of an operator do; plain. -/
namespace Go.Proofs.YtbefmlioampgcaaGreatDoor
open Go.RowKit
set_option linter.unusedVariables false
set_option linter.unusedSimpArgs false

/-- The lines of an operator, from its two words: its value, or the flag. -/
theorem oper_run {o : Nat} (h1 : 1 ≤ o) (h22 : o ≤ 22) (h20 : o ≠ 20) (h21 : o ≠ 21) {x y c : Int} (hx : is32 x) (hy : is32 y) (rest : List LineL) (m : List Int) :
    (∃ v, applyO o x y = some v ∧ is32 v ∧ runS (operL o ++ rest) none ⟨y, x, c, false⟩ m = runS rest none ⟨v, c, c, false⟩ m) ∨
    (applyO o x y = none ∧ ∃ v, is32 v ∧ runS (operL o ++ rest) none ⟨y, x, c, false⟩ m = runS rest none ⟨v, c, c, true⟩ m) := by
  have htr : ∀ b, is32 (truthL b) := truthL_is
  have hw : wrap32 (x - y) = 0 ↔ x = y := by unfold is32 at hx hy; unfold wrap32; omega
  have hd : opR ⟨y, x, c, false⟩ 4 = some ⟨wrap32 (x - y), c, c, false⟩ := by simp [opR, binO, RegL.join]
  have hz : ∀ b, (truthL b == 0) = !b := fun b => by cases b <;> rfl
  have hrev : ∀ a b c' : Int, opR ⟨a, b, c', false⟩ 0 = some ⟨b, a, c', false⟩ := fun a b c' => by simp [opR]
  have hgt : ∀ a b c' : Int, opR ⟨a, b, c', false⟩ 9 = some ⟨truthL (decide (a < b)), c', c', false⟩ := fun a b c' => by simp [opR, binO, RegL.join]
  by_cases h13 : o ≤ 13
  · have hap : applyO o x y = (binO (singleO o) x y).bind someO := by unfold applyO; rw [if_neg (by omega), if_pos h13]
    have hol : operL o = [lnO (singleO o)] := by
      unfold operL
      rw [if_neg (by omega), if_neg (by omega), if_neg (by omega), if_neg (by omega), if_neg (by omega), if_neg (by omega), if_neg (by omega)]
    have hs : ∀ o : Fin 14, 1 ≤ o.1 → singleO o.1 ≠ 0 ∧ singleO o.1 ≠ 50 ∧ singleO o.1 ≠ 41 ∧ knownB (singleO o.1) = true := by decide +kernel
    obtain ⟨n0, n50, n41, hkn⟩ := hs ⟨o, by omega⟩ h1
    simp only at n0 n50 n41 hkn
    have hor : opR ⟨y, x, c, false⟩ (singleO o) = (binO (singleO o) x y).map (RegL.join ⟨y, x, c, false⟩) := by
      unfold opR
      rw [if_neg n0, if_neg n50, if_neg n41]
    have hsome := known_of ⟨y, x, c, false⟩ (singleO o)
    rw [hor, hkn, Option.isSome_map] at hsome
    obtain ⟨p, hp⟩ := Option.isSome_iff_exists.1 hsome
    have hp32 := binO_is hx hy hp
    have hrun : runS (operL o ++ rest) none ⟨y, x, c, false⟩ m = runS rest none ⟨p.1, c, c, p.2⟩ m := by
      rw [hol, List.cons_append, List.nil_append, run_op, hor, hp]
      simp [RegL.join]
    rw [hap, hp]
    obtain ⟨v, ov⟩ := p
    cases ov with
    | true => exact .inr ⟨rfl, v, hp32, hrun⟩
    | false => exact .inl ⟨v, rfl, hp32, hrun⟩
  left
  by_cases h14 : o = 14
  · subst h14
    refine ⟨truthL (x == y), rfl, htr _, ?_⟩
    show runS ([lnO 4, lnF 12 0] ++ rest) none _ m = _
    simp only [List.cons_append, List.nil_append]
    rw [run_op, hd, run_eqc']
    simp only [Option.getD_some]
    congr 3
    rw [Bool.eq_iff_iff]
    simpa using hw
  by_cases h15 : o = 15
  · subst h15
    refine ⟨truthL (x != y), rfl, htr _, ?_⟩
    show runS ([lnO 4, lnF 12 0, lnF 12 0] ++ rest) none _ m = _
    simp only [List.cons_append, List.nil_append]
    rw [run_op, hd, run_eqc', run_eqc']
    simp only [Option.getD_some, hz]
    congr 3
    rw [Bool.eq_iff_iff]
    simp [hw]
  by_cases h16 : o = 16
  · subst h16
    refine ⟨truthL (decide (x < y)), rfl, htr _, ?_⟩
    show runS ([lnO 0, lnO 9] ++ rest) none _ m = _
    simp only [List.cons_append, List.nil_append]
    rw [run_op, hrev, run_op, Option.getD_some, hgt]
    rfl
  by_cases h17 : o = 17
  · subst h17
    refine ⟨truthL (decide (y < x)), rfl, htr _, ?_⟩
    show runS ([lnO 9] ++ rest) none _ m = _
    simp only [List.cons_append, List.nil_append]
    rw [run_op, hgt]
    rfl
  by_cases h18 : o = 18
  · subst h18
    refine ⟨truthL (decide (x ≤ y)), rfl, htr _, ?_⟩
    show runS ([lnO 9, lnF 12 0] ++ rest) none _ m = _
    simp only [List.cons_append, List.nil_append]
    rw [run_op, hgt, run_eqc']
    simp only [Option.getD_some, hz]
    congr 3
    rw [Bool.eq_iff_iff]
    simp
  by_cases h19 : o = 19
  · subst h19
    refine ⟨truthL (decide (y ≤ x)), rfl, htr _, ?_⟩
    show runS ([lnO 0, lnO 9, lnF 12 0] ++ rest) none _ m = _
    simp only [List.cons_append, List.nil_append]
    rw [run_op, hrev, run_op, Option.getD_some, hgt, run_eqc']
    simp only [Option.getD_some, hz]
    congr 3
    rw [Bool.eq_iff_iff]
    simp
  obtain rfl : o = 22 := by omega
  refine ⟨truthL (decide (0 < wrap32 (x - y))), rfl, htr _, ?_⟩
  show runS ([lnO 4, lnF 4 0, lnO 9] ++ rest) none _ m = _
  simp only [List.cons_append, List.nil_append]
  rw [run_op, hd, run_ldc, run_op]
  simp only [Option.getD_some, RegL.push]
  rw [hgt]
  rfl
end Go.Proofs.YtbefmlioampgcaaGreatDoor

/- What follows the code of an only part does; plain. -/
namespace Go.Proofs.YtbefmlioampgcaaGreatDoor
open Go.RowKit
set_option linter.unusedVariables false
set_option linter.unusedSimpArgs false

/-- What a part wants of the words: its own variable lies there, apart from the temporaries. -/
def PtOk (env : CEnv) (ss : List RwL) (ws : List Int) (t0 T1 : Int) (x : KE) : Prop :=
  is32 x.n ∧ (x.kind = 2 ∨ x.kind = 3 → ∃ (a k : Nat) (r : RwL), env.off x.v = (a : Int) ∧ x.v = (k : Nat) ∧ ss[k]? = some r ∧ (∀ v ∈ r.l, is32 v) ∧ 1 ≤ r.l.length ∧ r.l.length ≤ 64 ∧
    (x.kind = 3 → env.dim x.v = (r.l.length : Nat)) ∧ a + r.l.length ≤ ws.length ∧ ∀ i, i < r.l.length → ws[a + i]? = r.l[i]? ∧ ¬ (t0 ≤ ((a + i : Nat) : Int) ∧ ((a + i : Nat) : Int) < T1))
/-- The words are as laid, but for the temporaries. -/
def Agr (ws : List Int) (t0 T1 : Int) (m : List Int) : Prop := m.length = ws.length ∧ ∀ i : Nat, ¬ (t0 ≤ (i : Int) ∧ (i : Int) < T1) → m[i]? = ws[i]?
def Keep (lo hi : Int) (m m' : List Int) : Prop := m'.length = m.length ∧ ∀ i : Nat, ¬ (lo ≤ (i : Int) ∧ (i : Int) < hi) → m'[i]? = m[i]?
theorem Keep.refl (lo hi : Int) (m : List Int) : Keep lo hi m m := ⟨rfl, fun _ _ => rfl⟩
theorem Keep.trans {lo hi : Int} {m m' m'' : List Int} (h : Keep lo hi m m') (k : Keep lo hi m' m'') : Keep lo hi m m'' := ⟨k.1.trans h.1, fun i hi => (k.2 i hi).trans (h.2 i hi)⟩
theorem Keep.mono {lo hi lo' hi' : Int} {m m' : List Int} (h : Keep lo hi m m') (h1 : lo' ≤ lo) (h2 : hi ≤ hi') : Keep lo' hi' m m' := ⟨h.1, fun i hi => h.2 i (by omega)⟩
theorem Agr.keep {ws : List Int} {t0 T1 lo hi : Int} {m m' : List Int} (h : Agr ws t0 T1 m) (k : Keep lo hi m m') (h1 : t0 ≤ lo) (h2 : hi ≤ T1) : Agr ws t0 T1 m' :=
  ⟨k.1.trans h.1, fun i hi => (k.2 i (by omega)).trans (h.2 i hi)⟩
/-- From the lines l, with the flag not set: the value o is left, in q registers and the temporaries from lo to hi; or the flag is set. -/
def Good (ws : List Int) (t0 T1 : Int) (q : Nat) (lo hi : Int) (o : Option Int) (l : List LineL) : Prop :=
  ∀ (rest : List LineL) (r : RegL) (m : List Int), StL ws.length r m → r.e = false → Agr ws t0 T1 m →
    (∀ v, o = some v → ∃ b c m', runS (l ++ rest) none r m = runS rest none ⟨v, b, c, false⟩ m' ∧ StL ws.length ⟨v, b, c, false⟩ m' ∧ (q ≤ 2 → b = r.a) ∧ (q ≤ 1 → c = r.b) ∧ Keep lo hi m m') ∧
    (o = none → BadOut ws.length rest (runS (l ++ rest) none r m))
theorem atV_of {ss : List RwL} {k : Nat} {r : RwL} (h : ss[k]? = some r) (i : Int) : atV ss (k : Int) i = if i < 0 ∨ (r.l.length : Int) ≤ i then none else some (r.l.getD i.toNat 0) := by
  have hk := (List.getElem?_eq_some_iff.1 h).1
  have hg : ss.getD k default = r := by rw [List.getD_eq_getElem?_getD, h]; rfl
  unfold atV
  rw [Int.toNat_natCast, hg]
  by_cases hc : i < 0 ∨ (r.l.length : Int) ≤ i
  · rw [if_pos hc, if_pos (by omega)]
  · rw [if_neg hc, if_neg (by omega)]
theorem csub0 (y x c : Int) : opR ⟨y, x, c, false⟩ 19 = some ⟨x, c, c, decide (u32 y ≤ u32 x)⟩ := by simp [opR, binO, RegL.join]
theorem csub0_in {x : Int} (hx : is32 x) {d : Int} (h1 : 1 ≤ d) (h2 : d ≤ 65536) : decide (u32 d ≤ u32 x) = !decide (0 ≤ x ∧ x < d) := by
  rw [Bool.eq_iff_iff]
  unfold is32 at hx
  unfold u32
  simp
  omega
theorem addr_of {a i : Nat} (ha : a ≤ 65536) (hi : i ≤ 65536) : wrap32 (wrap32 (wrap32 (4 * (a : Int)) + wrap32 (4 * (i : Int))) + wrap32 (4 * 0)) / 4 = ((a + i : Nat) : Int) := by
  have h1 : wrap32 (4 * (a : Int)) = 4 * (a : Int) := w32_id (by omega)
  have h2 : wrap32 (4 * (i : Int)) = 4 * (i : Int) := w32_id (by omega)
  have h3 : wrap32 (4 * (a : Int) + 4 * (i : Int)) = 4 * (a : Int) + 4 * (i : Int) := w32_id (by omega)
  have h4 : wrap32 (4 * 0) = 0 := w32_id (by omega)
  have h5 : wrap32 (4 * (a : Int) + 4 * (i : Int) + 0) = 4 * (a : Int) + 4 * (i : Int) + 0 := w32_id (by omega)
  rw [h1, h2, h3, h4, h5]
  omega
set_option maxHeartbeats 4000000 in
/-- What follows the only part: from its value x. -/
theorem after_run {env : CEnv} {ss : List RwL} {ws : List Int} {t0 T1 : Int} {e : KE} (hf : fieldsB e = true) (h1 : e.l.length = 1) (hp : PtOk env ss ws t0 T1 e) (hM : ws.length ≤ 65536) {x b c : Int} (hb : e.kind = 4 ∧ e.oper = 26 → x = 0 ∨ x = 1)
    (rest : List LineL) (m : List Int) (hs : StL ws.length ⟨x, b, c, false⟩ m) (hm : Agr ws t0 T1 m) :
    (∀ v, oneV ss e.kind e.oper e.tk e.v x = some v → ∃ c', is32 v ∧ runS (afterL env e.kind e.oper e.tk e.v ++ rest) none ⟨x, b, c, false⟩ m = runS rest none ⟨v, b, c', false⟩ m ∧ is32 c' ∧ (easyE e.kind e.oper e.tk = true → c' = c)) ∧
    (oneV ss e.kind e.oper e.tk e.v x = none → BadOut ws.length rest (runS (afterL env e.kind e.oper e.tk e.v ++ rest) none ⟨x, b, c, false⟩ m)) := by
  obtain ⟨⟨hx, hb32, hc32⟩, hm32, hml⟩ := hs
  simp only at hx hb32 hc32
  have htr : ∀ b, is32 (truthL b) := truthL_is
  have hbad : ∀ v, is32 v → ∀ c', is32 c' → BadOut ws.length rest (runS rest none ⟨v, b, c', true⟩ m) := fun v hv c' hc' => .inr ⟨_, m, rfl, ⟨⟨hv, hb32, hc'⟩, hm32, hml⟩, rfl⟩
  rcases fieldsB_1 hf h1 with hk | ⟨hk, ho1, ho2⟩ | ⟨hk, ho, ht1, ht2⟩
  · obtain ⟨a, k, r, hoff, hv, hr, hr32, hl1, hl64, hdim, hal, hws⟩ := hp.2 (.inr hk)
    have hdim := hdim hk
    have hone : oneV ss e.kind e.oper e.tk e.v x = if x < 0 ∨ (r.l.length : Int) ≤ x then none else some (r.l.getD x.toNat 0) := by
      unfold oneV
      rw [if_pos hk, hv, atV_of hr]
    have haf : afterL env e.kind e.oper e.tk e.v = [lnF 4 (r.l.length : Int), lnO 19, lnO 41, lnJ stopT, lnF 1 (a : Int), lnO 10, lnF 3 0] := by
      unfold afterL
      rw [if_pos hk, hoff, hdim]
    rw [hone, haf]
    simp only [List.cons_append, List.nil_append]
    rw [run_ldc, run_op]
    simp only [RegL.push]
    rw [csub0, csub0_in hx (by omega) (by omega), Option.getD_some, run_op]
    by_cases hin : 0 ≤ x ∧ x < (r.l.length : Int)
    · rw [if_neg (by omega)]
      refine ⟨?_, fun h => by cases h⟩
      intro v hvv
      obtain ⟨i, rfl⟩ : ∃ i : Nat, x = i := ⟨x.toNat, by omega⟩
      have hil : i < r.l.length := by omega
      have hri : r.l[i]? = some r.l[i] := List.getElem?_eq_getElem hil
      have hve : r.l[i] = v := by
        rw [Int.toNat_natCast, List.getD_eq_getElem?_getD, hri] at hvv
        exact Option.some.inj hvv
      obtain ⟨hw1, hw2⟩ := hws i hil
      have hmi : m[a + i]? = some v := by rw [hm.2 (a + i) hw2, hw1, hri, hve]
      have hop : (opR ⟨(i : Int), b, b, !decide (0 ≤ (i : Int) ∧ (i : Int) < (r.l.length : Int))⟩ 41).getD ⟨(i : Int), b, b, !decide (0 ≤ (i : Int) ∧ (i : Int) < (r.l.length : Int))⟩ = ⟨1, i, b, false⟩ := by
        rw [decide_eq_true hin]
        simp [opR, truthL]
      refine ⟨b, by rw [← hve]; exact hr32 _ (List.getElem_mem hil), ?_, hb32, fun h => by rw [hk] at h; simp [easyE] at h⟩
      rw [hop, run_stop, if_pos (by simp), run_ldlp, run_op]
      have hws2 : (opR ((RegL.pop ⟨1, (i : Int), b, false⟩).push (wrap32 (4 * (a : Int)))) 10).getD ((RegL.pop ⟨1, (i : Int), b, false⟩).push (wrap32 (4 * (a : Int)))) = ⟨wrap32 (wrap32 (4 * (a : Int)) + wrap32 (4 * (i : Int))), b, b, false⟩ := by
        simp [opR, binO, RegL.join, RegL.push, RegL.pop]
      rw [hws2, run_ldnl (k := a + i) hmi]
      exact addr_of (by omega) (by omega)
    · rw [if_pos (by omega)]
      refine ⟨fun v h => (by cases h), fun _ => ?_⟩
      left
      have hop : (opR ⟨x, b, b, !decide (0 ≤ x ∧ x < (r.l.length : Int))⟩ 41).getD ⟨x, b, b, !decide (0 ≤ x ∧ x < (r.l.length : Int))⟩ = ⟨0, x, b, false⟩ := by
        rw [decide_eq_false hin]
        simp [opR, truthL]
      rw [hop, run_stop]
      simp
  · have hone : oneV ss e.kind e.oper e.tk e.v x = applyO e.oper x 0 := by unfold oneV; rw [if_neg (by omega), if_pos hk]
    rw [hone]
    have hoc : e.oper = 23 ∨ e.oper = 24 ∨ e.oper = 25 ∨ e.oper = 26 := by omega
    rcases hoc with ho | ho | ho | ho
    · have haf : afterL env e.kind e.oper e.tk e.v = [lnF 4 0, lnO 0, lnO 12] := by unfold afterL; rw [if_neg (by omega), if_pos ho]
      rw [haf, ho]
      simp only [List.cons_append, List.nil_append]
      rw [run_ldc, run_op, run_op]
      have hop : (opR ((opR (RegL.push ⟨x, b, c, false⟩ 0) 0).getD (RegL.push ⟨x, b, c, false⟩ 0)) 12).getD ((opR (RegL.push ⟨x, b, c, false⟩ 0) 0).getD (RegL.push ⟨x, b, c, false⟩ 0)) = ⟨wrap32 (0 - x), b, b, wrap32 (0 - x) != 0 - x⟩ := by
        simp [opR, binO, RegL.join, RegL.push]
      rw [hop]
      have hap : applyO 23 x 0 = someO (wrap32 (0 - x), wrap32 (0 - x) != 0 - x) := rfl
      rw [hap]
      have h32 : is32 (wrap32 (0 - x)) := by unfold is32 wrap32; omega
      cases hov : (wrap32 (0 - x) != 0 - x) with
      | true => exact ⟨fun v h => by simp [someO] at h, fun _ => hbad _ h32 _ hb32⟩
      | false =>
        refine ⟨fun v h => ?_, fun h => by simp [someO] at h⟩
        have h' : some (wrap32 (0 - x)) = some v := h
        obtain rfl := Option.some.inj h'
        exact ⟨b, h32, rfl, hb32, fun h => by rw [hk] at h; simp [easyE] at h⟩
    · have haf : afterL env e.kind e.oper e.tk e.v = [lnF 4 0, lnO 0, lnO 4] := by unfold afterL; rw [if_neg (by omega), if_neg (by omega), if_pos ho]
      rw [haf, ho]
      simp only [List.cons_append, List.nil_append]
      rw [run_ldc, run_op, run_op]
      have hop : (opR ((opR (RegL.push ⟨x, b, c, false⟩ 0) 0).getD (RegL.push ⟨x, b, c, false⟩ 0)) 4).getD ((opR (RegL.push ⟨x, b, c, false⟩ 0) 0).getD (RegL.push ⟨x, b, c, false⟩ 0)) = ⟨wrap32 (0 - x), b, b, false⟩ := by
        simp [opR, binO, RegL.join, RegL.push]
      rw [hop]
      have hap : applyO 24 x 0 = some (wrap32 (0 - x)) := rfl
      rw [hap]
      refine ⟨fun v h => ?_, fun h => by cases h⟩
      obtain rfl := Option.some.inj h
      exact ⟨b, by unfold is32 wrap32; omega, rfl, hb32, fun h => by rw [hk] at h; simp [easyE] at h⟩
    · have haf : afterL env e.kind e.oper e.tk e.v = [lnO 50] := by unfold afterL; rw [if_neg (by omega), if_neg (by omega), if_neg (by omega), if_pos ho]
      rw [haf, ho]
      simp only [List.cons_append, List.nil_append]
      rw [run_op]
      have hap : applyO 25 x 0 = some (-1 - x) := rfl
      rw [hap]
      refine ⟨fun v h => ?_, fun h => by cases h⟩
      obtain rfl := Option.some.inj h
      exact ⟨c, by unfold is32 at hx ⊢; omega, rfl, hc32, fun _ => rfl⟩
    · have haf : afterL env e.kind e.oper e.tk e.v = [lnF 12 0] := by unfold afterL; rw [if_neg (by omega), if_neg (by omega), if_neg (by omega), if_neg (by omega), if_pos ho]
      rw [haf, ho]
      simp only [List.cons_append, List.nil_append]
      rw [run_eqc']
      have hbx : bit01 x = true := by rcases hb ⟨hk, ho⟩ with h | h <;> simp [bit01, h]
      have hap : applyO 26 x 0 = some (truthL (x == 0)) := by
        show (if bit01 x then some (truthL (x == 0)) else none) = _
        rw [if_pos hbx]
      rw [hap]
      refine ⟨fun v h => ?_, fun h => by cases h⟩
      obtain rfl := Option.some.inj h
      exact ⟨c, htr _, rfl, hc32, fun _ => rfl⟩
  · have hone : oneV ss e.kind e.oper e.tk e.v x = convO e.tk x := by unfold oneV; rw [if_neg (by omega), if_neg (by omega), if_pos hk]
    rw [hone]
    have htc : e.tk = 1 ∨ e.tk = 2 ∨ e.tk = 3 := by omega
    rcases htc with ht | ht | ht
    · have haf : afterL env e.kind e.oper e.tk e.v = [] := by unfold afterL; rw [if_neg (by omega), if_neg (by omega), if_neg (by omega), if_neg (by omega), if_neg (by omega), if_neg (by omega), if_neg (by omega)]
      rw [haf, ht]
      have hcv : convO 1 x = some x := by simp [convO]
      rw [hcv]
      refine ⟨fun v h => ?_, fun h => by cases h⟩
      obtain rfl := Option.some.inj h
      exact ⟨c, hx, rfl, hc32, fun _ => rfl⟩
    · have haf : afterL env e.kind e.oper e.tk e.v = [lnF 4 256, lnO 19] := by unfold afterL; rw [if_neg (by omega), if_neg (by omega), if_neg (by omega), if_neg (by omega), if_neg (by omega), if_pos ht]
      rw [haf, ht]
      simp only [List.cons_append, List.nil_append]
      rw [run_ldc, run_op]
      simp only [RegL.push]
      rw [csub0, csub0_in hx (by omega) (by omega), Option.getD_some]
      by_cases hin : 0 ≤ x ∧ x < 256
      · have hcv : convO 2 x = some x := by unfold convO; rw [if_pos (by omega)]
        rw [hcv, decide_eq_true hin]
        refine ⟨fun v h => ?_, fun h => by cases h⟩
        obtain rfl := Option.some.inj h
        exact ⟨b, hx, rfl, hb32, fun h => by rw [hk] at h; simp [easyE] at h⟩
      · have hcv : convO 2 x = none := by unfold convO; rw [if_neg (by omega)]
        rw [hcv, decide_eq_false hin]
        exact ⟨fun v h => (by cases h), fun _ => hbad _ hx _ hb32⟩
    · have haf : afterL env e.kind e.oper e.tk e.v = [lnF 4 2, lnO 19] := by unfold afterL; rw [if_neg (by omega), if_neg (by omega), if_neg (by omega), if_neg (by omega), if_neg (by omega), if_neg (by omega), if_pos ht]
      rw [haf, ht]
      simp only [List.cons_append, List.nil_append]
      rw [run_ldc, run_op]
      simp only [RegL.push]
      rw [csub0, csub0_in hx (by omega) (by omega), Option.getD_some]
      by_cases hin : 0 ≤ x ∧ x < 2
      · have hcv : convO 3 x = some x := by unfold convO; rw [if_pos (by omega)]
        rw [hcv, decide_eq_true hin]
        refine ⟨fun v h => ?_, fun h => by cases h⟩
        obtain rfl := Option.some.inj h
        exact ⟨b, hx, rfl, hb32, fun h => by rw [hk] at h; simp [easyE] at h⟩
      · have hcv : convO 3 x = none := by unfold convO; rw [if_neg (by omega)]
        rw [hcv, decide_eq_false hin]
        exact ⟨fun v h => (by cases h), fun _ => hbad _ hx _ hb32⟩
end Go.Proofs.YtbefmlioampgcaaGreatDoor
