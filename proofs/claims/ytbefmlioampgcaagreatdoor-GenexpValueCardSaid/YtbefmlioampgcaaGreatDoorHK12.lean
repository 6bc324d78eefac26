/- Texts that belong together, joined: what each one holds is told ahead of it. -/
import Derived.Test.YtbefmlioampgcaaGreatDoorHCK
import Derived.Test.YtbefmlioampgcaaGreatDoorHK3
set_option linter.unusedVariables false
set_option linter.unusedSimpArgs false
/- What an expression needs, in plain words: out of what its parts need. -/
namespace Go.Proofs.YtbefmlioampgcaaGreatDoor
open Go.RowKit
set_option linter.unusedVariables false
set_option linter.unusedSimpArgs false

def needE (e : KE) : NeedL := ⟨true, safeE e, regsE e, tempsE e⟩
theorem regsE_0 {e : KE} (h : e.l = []) : regsE e = 1 ∧ tempsE e = 0 ∧ safeE e = true := by
  obtain ⟨k, o, t, n, v, A, c, l⟩ := e
  simp only at h
  subst h
  exact ⟨by rw [regsE], by rw [tempsE], by rw [safeE]⟩
theorem regsE_1 {e a : KE} (h : e.l = [a]) : regsE e = (if easyE e.kind e.oper e.tk then regsE a else max (regsE a) 2) ∧ tempsE e = tempsE a ∧ safeE e = (safeE a && (easyE e.kind e.oper e.tk || (e.kind == 4 && e.oper != 23))) := by
  obtain ⟨k, o, t, n, v, A, c, l⟩ := e
  simp only at h
  subst h
  exact ⟨by rw [regsE], by rw [tempsE], by rw [safeE]⟩
theorem regsE_2 {e a b : KE} {r : List KE} (h : e.l = a :: b :: r) : regsE e = (if e.oper ≠ 20 ∧ e.oper ≠ 21 ∧ regsE a = regsE b then min (regsE a + 1) 3 else max (regsE a) (regsE b)) ∧
    tempsE e = (if e.oper ≠ 20 ∧ e.oper ≠ 21 ∧ regsE a = 3 ∧ regsE b = 3 then max (tempsE b) (tempsE a + 1) else max (tempsE a) (tempsE b)) ∧ safeE e = (safeE a && safeE b && decide (6 ≤ e.oper)) := by
  obtain ⟨k, o, t, n, v, A, c, l⟩ := e
  simp only at h
  subst h
  exact ⟨by rw [regsE], by rw [tempsE], by rw [safeE]⟩
theorem regsE_le (e : KE) : 1 ≤ regsE e ∧ regsE e ≤ 3 := by
  induction e using KE.ind with
  | h e ih =>
    match hl : e.l with
    | [] => rw [(regsE_0 hl).1]; omega
    | [a] =>
      have := ih a (by rw [hl]; simp)
      rw [(regsE_1 hl).1]
      split <;> omega
    | a :: b :: r =>
      have := ih a (by rw [hl]; simp)
      have := ih b (by rw [hl]; simp)
      rw [(regsE_2 hl).1]
      split <;> omega
/-- There are fewer temporaries than expressions inside. -/
theorem tempsE_le (e : KE) : ∀ {inside left r : Nat}, e.l.length ≤ 2 → (∀ x ∈ e.l, fieldsB x = true) → roomE inside left e = some r → tempsE e + r + 1 ≤ left := by
  induction e using KE.ind with
  | h e ih =>
    intro inside left r h2 hf hr
    have hx : ∀ x ∈ e.l, fieldsB x = true → x.l.length ≤ 2 := fun x _ h => by
      unfold fieldsB at h
      split at h <;> first | (have h := of_decide_eq_true h; omega) | cases h
    have hall := (KE.all_iff.1 (roomE_all e hr)).2
    have hy : ∀ x ∈ e.l, ∀ y ∈ x.l, fieldsB y = true := fun x hx y hy => (KE.all_iff.1 ((KE.all_iff.1 (hall x hx)).2 y hy)).1
    rw [roomE_eq] at hr
    split at hr
    · cases hr
    rename_i hc
    have h0 : left ≠ 0 := by intro h; subst h; simp at hc
    match hl : e.l with
    | [] =>
      rw [hl, roomL] at hr
      injection hr with hr
      rw [(regsE_0 hl).2.1]; omega
    | [a] =>
      rw [hl, roomL] at hr
      cases ha : roomE (inside + 1) (left - 1) a with
      | none => rw [ha] at hr; cases hr
      | some r1 =>
        rw [ha] at hr
        simp only [roomL] at hr
        injection hr with hr
        have ma : a ∈ e.l := by rw [hl]; simp
        have := ih a ma (hx a ma (hf a ma)) (hy a ma) ha
        rw [(regsE_1 hl).2.1]; omega
    | [a, b] =>
      rw [hl, roomL] at hr
      cases ha : roomE (inside + 1) (left - 1) a with
      | none => rw [ha] at hr; cases hr
      | some r1 =>
        rw [ha] at hr
        simp only [roomL] at hr
        cases hb : roomE (inside + 1) r1 b with
        | none => rw [hb] at hr; cases hr
        | some r2 =>
          rw [hb] at hr
          simp only at hr
          injection hr with hr
          have ma : a ∈ e.l := by rw [hl]; simp
          have mb : b ∈ e.l := by rw [hl]; simp
          have h1 := ih a ma (hx a ma (hf a ma)) (hy a ma) ha
          have h2 := ih b mb (hx b mb (hf b mb)) (hy b mb) hb
          rw [(regsE_2 hl).2.1]
          split <;> omega
    | a :: b :: c :: q => rw [hl] at h2; simp at h2
theorem fieldsB_len {e : KE} (h : fieldsB e = true) : e.l.length ≤ 2 ∧ (e.l.length = 1 → e.kind = 4 → 23 ≤ e.oper ∧ e.oper ≤ 26) ∧ (e.l.length = 2 → e.kind = 5 ∧ 1 ≤ e.oper ∧ e.oper ≤ 22) := by
  unfold fieldsB at h
  split at h <;> first | (have h := of_decide_eq_true h; exact ⟨by omega, fun h1 h2 => by omega, fun h1 => by omega⟩) | cases h
theorem tempsE_le' {e : KE} {inside left r : Nat} (h : roomE inside left e = some r) : tempsE e + r + 1 ≤ left := by
  have hall := roomE_all e h
  refine tempsE_le e (fieldsB_len (KE.all_iff.1 hall).1).1 (fun x hx => (KE.all_iff.1 ((KE.all_iff.1 hall).2 x hx)).1) h
theorem join_0 {e : KE} (h : e.l = []) : joinN e.kind e.oper e.tk [] = needE e := by
  obtain ⟨h1, h2, h3⟩ := regsE_0 h
  simp [joinN, needE, h1, h2, h3]
theorem join_1 {e a : KE} (hf : fieldsB e = true) (h : e.l = [a]) : joinN e.kind e.oper e.tk [needE a] = needE e := by
  obtain ⟨h1, h2, h3⟩ := regsE_1 h
  have h4 := (fieldsB_len hf).2.1 (by rw [h]; rfl)
  have hq : (e.kind == 4 && quietB e.oper) = (e.kind == 4 && e.oper != 23) := by
    by_cases hk : e.kind = 4
    · have := h4 hk
      have e1 : quietB e.oper = (e.oper != 23) := by
        rw [Bool.eq_iff_iff]; simp [quietB]; omega
      rw [e1]
    · rw [beq_eq_false_iff_ne.2 hk]; rfl
  simp only [joinN, needE, h1, h2, h3, hq]
theorem join_2 {e a b : KE} (hf : fieldsB e = true) (h : e.l = [a, b]) : joinN e.kind e.oper e.tk [needE a, needE b] = needE e := by
  obtain ⟨h1, h2, h3⟩ := regsE_2 h
  have h4 := (fieldsB_len hf).2.2 (by rw [h]; rfl)
  have ha := regsE_le a
  have hb := regsE_le b
  have e1 : quietB e.oper = decide (6 ≤ e.oper) := by
    rw [Bool.eq_iff_iff]; simp [quietB]; omega
  simp only [joinN, needE, h1, h2, h3, e1]
  by_cases h20 : e.oper = 20 ∨ e.oper = 21
  · rw [if_pos (by omega), if_neg (by omega), if_neg (by omega)]
  by_cases he : regsE a = regsE b
  · rw [if_neg (by omega)]
    by_cases h3 : regsE a < 3
    · rw [if_pos h3, if_pos (by omega), if_neg (by omega)]
      congr 1; omega
    · rw [if_neg h3, if_pos (by omega), if_pos (by omega)]
      congr 1; omega
  · rw [if_pos (by omega), if_neg (by omega), if_neg (by omega)]
end Go.Proofs.YtbefmlioampgcaaGreatDoor

/- How many registers the code of an expression uses, in plain words. -/
namespace Go.Proofs.YtbefmlioampgcaaGreatDoor
open Go.RowKit
set_option linter.unusedVariables false
set_option linter.unusedSimpArgs false

/-- The words that a line takes and leaves. -/
def effN (x : LineL) : Option (Nat × Nat) := (findI (x.fn : Int) x.arg).map fun r => (r.takes, r.leaves)
/-- The registers in use behind lines, none: there were too few, or more than D. -/
def regN (D : Nat) : Nat → List LineL → Option Nat
  | n, [] => some n
  | n, x :: l => match effN x with
    | none => none
    | some (t, v) => if n < t ∨ D < n - t + v then none else regN D (n - t + v) l
theorem codeE_0 {e : KE} (env : CEnv) (h : e.l = []) (t : Int) (n : Nat) : codeE env e t n = if e.kind = 1 then ([lnF 4 e.n], n) else ([lnF 7 (env.off e.v)], n) := by
  obtain ⟨k, o, tk, num, v, A, c, l⟩ := e
  simp only at h
  subst h
  rw [codeE]
theorem codeE_1 {e a : KE} (env : CEnv) (h : e.l = [a]) (t : Int) (n : Nat) : codeE env e t n = ((codeE env a t n).1 ++ afterL env e.kind e.oper e.tk e.v, (codeE env a t n).2) := by
  obtain ⟨k, o, tk, num, v, A, c, l⟩ := e
  simp only at h
  subst h
  rw [codeE]
theorem codeE_2 {e a b : KE} {r : List KE} (env : CEnv) (h : e.l = a :: b :: r) (t : Int) (n : Nat) : codeE env e t n =
      if e.oper = 20 ∨ e.oper = 21 then
        let x := codeE env a t n
        let y := codeE env b t (x.2 + 1)
        if e.oper = 21 then (x.1 ++ ([lnF 12 0] ++ ([lnJ (freshL env (x.2 + 1))] ++ (y.1 ++ [lnF 12 0, ⟨freshL env (x.2 + 1), 12, 0, [], []⟩]))), y.2)
        else (x.1 ++ ([lnJ (freshL env (x.2 + 1))] ++ (y.1 ++ [⟨freshL env (x.2 + 1), 8, 0, [], []⟩])), y.2)
      else if regsE a = 3 ∧ regsE b = 3 then
        let x := codeE env b t n
        let y := codeE env a (t + 1) x.2
        (x.1 ++ ([lnF 13 t] ++ (y.1 ++ ([lnF 7 t] ++ operL e.oper))), y.2)
      else if regsE a < regsE b then
        let x := codeE env b t n
        let y := codeE env a t x.2
        (x.1 ++ (y.1 ++ ([lnO 0] ++ operL e.oper)), y.2)
      else
        let x := codeE env a t n
        let y := codeE env b t x.2
        (x.1 ++ (y.1 ++ operL e.oper), y.2) := by
  obtain ⟨k, o, tk, num, v, A, c, l⟩ := e
  simp only at h
  subst h
  rw [codeE]
/-- What the fields of an expression with one part are. -/
theorem fieldsB_1 {e : KE} (h : fieldsB e = true) (h1 : e.l.length = 1) : e.kind = 3 ∨ (e.kind = 4 ∧ 23 ≤ e.oper ∧ e.oper ≤ 26) ∨ (e.kind = 6 ∧ e.oper = 0 ∧ 1 ≤ e.tk ∧ e.tk ≤ 3) := by
  unfold fieldsB at h
  split at h <;> first | (have h := of_decide_eq_true h; omega) | cases h
end Go.Proofs.YtbefmlioampgcaaGreatDoor

/- The labels and jumps in the code of an expression, in plain words. -/
namespace Go.Proofs.YtbefmlioampgcaaGreatDoor
open Go.RowKit
set_option linter.unusedVariables false
set_option linter.unusedSimpArgs false

/-- The labels of lines. -/
def labs (ls : List LineL) : List (List UInt8) := (ls.map (·.label)).filter (!·.isEmpty)
theorem labs_append (a b : List LineL) : labs (a ++ b) = labs a ++ labs b := by simp [labs]
theorem labs_no (x : LineL) (h : x.label = []) (l : List LineL) : labs (x :: l) = labs l := by simp [labs, h]
theorem labs_yes (x : LineL) (h : x.label ≠ []) (l : List LineL) : labs (x :: l) = x.label :: labs l := by
  simp [labs, List.filter_cons, h]
theorem labs_of {ls : List LineL} (h : ∀ x ∈ ls, x.label = []) : labs ls = [] := by
  induction ls with
  | nil => rfl
  | cons x l ih => rw [labs_no x (h x (by simp)), ih fun y hy => h y (by simp [hy])]
theorem mem_labs {ls : List LineL} {s : List UInt8} : s ∈ labs ls ↔ s ≠ [] ∧ ∃ x ∈ ls, x.label = s := by
  simp [labs]
  constructor
  · rintro ⟨⟨x, h1, h2⟩, h3⟩; exact ⟨h3, x, h1, h2⟩
  · rintro ⟨h3, x, h1, h2⟩; exact ⟨⟨x, h1, h2⟩, h3⟩
/-- Every line jumps to stop, or to a label behind it. -/
def jumpsOk : List LineL → Prop
  | [] => True
  | x :: l => (x.target = [] ∨ x.target = stopT ∨ x.target ∈ labs l) ∧ jumpsOk l
theorem jumps_append : ∀ {a b : List LineL}, jumpsOk a → jumpsOk b → jumpsOk (a ++ b)
  | [], b, _, h => h
  | x :: a, b, h, k => by
    rw [List.cons_append, jumpsOk]
    refine ⟨?_, jumps_append h.2 k⟩
    rcases h.1 with h | h | h
    · exact .inl h
    · exact .inr (.inl h)
    · exact .inr (.inr (by rw [labs_append]; exact List.mem_append_left _ h))
theorem jumps_of {ls : List LineL} (h : ∀ x ∈ ls, x.target = []) : jumpsOk ls := by
  induction ls with
  | nil => trivial
  | cons x l ih => exact ⟨.inl (h x (by simp)), ih fun y hy => h y (by simp [hy])⟩
theorem fresh_inj {env : CEnv} {i j : Nat} (h : freshL env i = freshL env j) : i = j := by
  unfold freshL at h
  have h1 : Lib.decDigits i = Lib.decDigits j := List.append_cancel_left h
  have := congrArg (valR 10) h1
  rwa [valR_dec, valR_dec] at this
theorem fresh_ne (env : CEnv) (i : Nat) : freshL env i ≠ [] := by simp [freshL]
theorem oper_mem {o : Nat} {x : LineL} (h : x ∈ operL o) : x.label = [] ∧ x.target = [] ∧ x.frm = [] ∧ (x.fn = 15 ∨ x.fn = 12 ∨ x.fn = 4) := by
  have hO : ∀ q, (lnO q).label = [] ∧ (lnO q).target = [] ∧ (lnO q).frm = [] ∧ ((lnO q).fn = 15 ∨ (lnO q).fn = 12 ∨ (lnO q).fn = 4) := fun q => ⟨rfl, rfl, rfl, .inl rfl⟩
  have h12 : ∀ q, (lnF 12 q).label = [] ∧ (lnF 12 q).target = [] ∧ (lnF 12 q).frm = [] ∧ ((lnF 12 q).fn = 15 ∨ (lnF 12 q).fn = 12 ∨ (lnF 12 q).fn = 4) := fun q => ⟨rfl, rfl, rfl, .inr (.inl rfl)⟩
  have h4 : ∀ q, (lnF 4 q).label = [] ∧ (lnF 4 q).target = [] ∧ (lnF 4 q).frm = [] ∧ ((lnF 4 q).fn = 15 ∨ (lnF 4 q).fn = 12 ∨ (lnF 4 q).fn = 4) := fun q => ⟨rfl, rfl, rfl, .inr (.inr rfl)⟩
  unfold operL at h
  repeat' split at h
  all_goals
    simp only [List.mem_cons, List.not_mem_nil, or_false] at h
    first
      | (rcases h with rfl | rfl | rfl <;> first | exact hO _ | exact h12 _ | exact h4 _)
      | (rcases h with rfl | rfl <;> first | exact hO _ | exact h12 _ | exact h4 _)
      | (subst h; exact hO _)
theorem after_mem {env : CEnv} {k o tk : Nat} {v : Int} {x : LineL} (h : x ∈ afterL env k o tk v) : x.label = [] ∧ (x.target = [] ∨ x.target = stopT) ∧ x.frm = [] ∧ (x.fn = 15 ∨ x.fn = 12 ∨ x.fn = 4 ∨ x.fn = 1 ∨ x.fn = 3 ∨ (x.fn = 10 ∧ x.target = stopT)) := by
  unfold afterL at h
  repeat' split at h
  all_goals
    first
      | exact absurd h List.not_mem_nil
      | (simp only [List.mem_cons, List.not_mem_nil, or_false] at h; rcases h with rfl | rfl | rfl | rfl | rfl | rfl | rfl <;> simp [lnF, lnO, lnJ])
      | (simp only [List.mem_cons, List.not_mem_nil, or_false] at h; rcases h with rfl | rfl | rfl <;> simp [lnF, lnO, lnJ])
      | (simp only [List.mem_cons, List.not_mem_nil, or_false] at h; rcases h with rfl | rfl <;> simp [lnF, lnO, lnJ])
      | (simp only [List.mem_cons, List.not_mem_nil, or_false] at h; subst h; simp [lnF, lnO, lnJ])
/-- The labels of an expression's code: those with the numbers behind n, up to m. -/
def LabsIn (env : CEnv) (n m : Nat) (l : List LineL) : Prop := n ≤ m ∧ (labs l).Nodup ∧ ∀ s ∈ labs l, ∃ j, n < j ∧ j ≤ m ∧ s = freshL env j
theorem LabsIn.none {env : CEnv} {n : Nat} {l : List LineL} (h : ∀ x ∈ l, x.label = []) : LabsIn env n n l := by
  have := labs_of h
  exact ⟨Nat.le_refl _, by rw [this]; exact List.nodup_nil, by rw [this]; simp⟩
theorem LabsIn.append {env : CEnv} {n m q : Nat} {a b : List LineL} (h : LabsIn env n m a) (k : LabsIn env m q b) : LabsIn env n q (a ++ b) := by
  obtain ⟨h1, h2, h3⟩ := h
  obtain ⟨k1, k2, k3⟩ := k
  refine ⟨by omega, ?_, ?_⟩
  · rw [labs_append, List.nodup_append]
    refine ⟨h2, k2, ?_⟩
    rintro s hs t ht rfl
    obtain ⟨i, hi1, hi2, rfl⟩ := h3 s hs
    obtain ⟨j, hj1, hj2, e⟩ := k3 _ ht
    have := fresh_inj e
    omega
  · intro s hs
    rw [labs_append] at hs
    rcases List.mem_append.1 hs with hs | hs
    · obtain ⟨j, h1, h2, h3⟩ := h3 s hs; exact ⟨j, h1, by omega, h3⟩
    · obtain ⟨j, h1, h2, h3⟩ := k3 s hs; exact ⟨j, by omega, h2, h3⟩
/-- One number is used ahead, for the last line. -/
theorem LabsIn.last {env : CEnv} {n q : Nat} {b c : List LineL} {x : LineL} (h : LabsIn env (n + 1) q b) (hc : ∀ y ∈ c, y.label = []) (hx : x.label = freshL env (n + 1)) : LabsIn env n q (b ++ (c ++ [x])) := by
  obtain ⟨h1, h2, h3⟩ := h
  have hl : labs (c ++ [x]) = [freshL env (n + 1)] := by
    rw [labs_append, labs_of hc, labs_yes x (by rw [hx]; exact fresh_ne _ _), hx]; rfl
  refine ⟨by omega, ?_, ?_⟩
  · rw [labs_append, hl, List.nodup_append]
    refine ⟨h2, by simp, ?_⟩
    rintro s hs t ht rfl
    simp at ht
    obtain ⟨i, hi1, hi2, e⟩ := h3 s hs
    rw [ht] at e
    have := fresh_inj e
    omega
  · intro s hs
    rw [labs_append, hl] at hs
    rcases List.mem_append.1 hs with hs | hs
    · obtain ⟨j, h1, h2, h3⟩ := h3 s hs; exact ⟨j, by omega, h2, h3⟩
    · simp at hs; exact ⟨n + 1, by omega, by omega, hs⟩
theorem code_labs (env : CEnv) (e : KE) : ∀ (t : Int) (n : Nat), LabsIn env n (codeE env e t n).2 (codeE env e t n).1 := by
  induction e using KE.ind with
  | h e ih =>
    intro t n
    match hl : e.l with
    | [] =>
      rw [codeE_0 env hl]
      split <;> exact LabsIn.none (by simp [lnF])
    | [a] =>
      rw [codeE_1 env hl]
      exact (ih a (by rw [hl]; simp) t n).append (LabsIn.none fun x hx => (after_mem hx).1)
    | a :: b :: r =>
      have ma : a ∈ e.l := by rw [hl]; simp
      have mb : b ∈ e.l := by rw [hl]; simp
      have hO : LabsIn env 0 0 (operL e.oper) := LabsIn.none fun x hx => (oper_mem hx).1
      have hO' : ∀ n, LabsIn env n n (operL e.oper) := fun n => LabsIn.none fun x hx => (oper_mem hx).1
      have hs : ∀ (n : Nat) (f : Nat) (a : Int), LabsIn env n n [lnF f a] := fun n f a => LabsIn.none (by simp [lnF])
      have hj : ∀ (n : Nat) (t : List UInt8), LabsIn env n n [lnJ t] := fun n t => LabsIn.none (by simp [lnJ])
      rw [codeE_2 env hl]
      by_cases h20 : e.oper = 20 ∨ e.oper = 21
      · rw [if_pos h20]
        by_cases h21 : e.oper = 21
        · simp only [if_pos h21]
          refine (ih a ma t n).append ((hs _ _ _).append ((hj _ _).append ?_))
          exact (ih b mb t _).last (c := [lnF 12 0]) (by simp [lnF]) rfl
        · simp only [if_neg h21]
          refine (ih a ma t n).append ((hj _ _).append ?_)
          exact (ih b mb t _).last (c := []) (by simp) rfl
      · rw [if_neg h20]
        by_cases h33 : regsE a = 3 ∧ regsE b = 3
        · rw [if_pos h33]
          simp only
          exact (ih b mb t n).append ((hs _ _ _).append ((ih a ma (t + 1) _).append ((hs _ _ _).append (hO' _))))
        · rw [if_neg h33]
          by_cases hlt : regsE a < regsE b
          · rw [if_pos hlt]
            simp only
            exact (ih b mb t n).append ((ih a ma t _).append ((LabsIn.none (by simp [lnF, lnO])).append (hO' _)))
          · rw [if_neg hlt]
            simp only
            exact (ih a ma t n).append ((ih b mb t _).append (hO' _))
theorem jumps_end {b c : List LineL} {x : LineL} {s : List UInt8} (hx : x.label = s) (hs : s ≠ []) (hb : jumpsOk b) (hc : ∀ y ∈ c, y.target = []) (ht : x.target = []) : jumpsOk (lnJ s :: (b ++ (c ++ [x]))) := by
  refine ⟨.inr (.inr ?_), jumps_append hb (jumps_append (jumps_of hc) (jumps_of (by simp [ht])))⟩
  show s ∈ _
  rw [mem_labs]
  exact ⟨hs, x, by simp, hx⟩
theorem code_jumps (env : CEnv) (e : KE) : ∀ (t : Int) (n : Nat), jumpsOk (codeE env e t n).1 := by
  induction e using KE.ind with
  | h e ih =>
    intro t n
    match hl : e.l with
    | [] =>
      rw [codeE_0 env hl]
      split <;> exact jumps_of (by simp [lnF])
    | [a] =>
      rw [codeE_1 env hl]
      refine jumps_append (ih a (by rw [hl]; simp) t n) ?_
      have h : ∀ l : List LineL, (∀ x ∈ l, x.target = [] ∨ x.target = stopT) → jumpsOk l := by
        intro l
        induction l with
        | nil => intro _; trivial
        | cons x l ih =>
          intro h
          refine ⟨?_, ih fun y hy => h y (by simp [hy])⟩
          rcases h x (by simp) with h | h
          · exact .inl h
          · exact .inr (.inl h)
      exact h _ fun x hx => (after_mem hx).2.1
    | a :: b :: r =>
      have ma : a ∈ e.l := by rw [hl]; simp
      have mb : b ∈ e.l := by rw [hl]; simp
      have hO' : jumpsOk (operL e.oper) := jumps_of fun x hx => (oper_mem hx).2.1
      have hs : ∀ (f : Nat) (a : Int), jumpsOk [lnF f a] := fun f a => jumps_of (by simp [lnF])
      rw [codeE_2 env hl]
      by_cases h20 : e.oper = 20 ∨ e.oper = 21
      · rw [if_pos h20]
        by_cases h21 : e.oper = 21
        · simp only [if_pos h21]
          refine jumps_append (ih a ma t n) (jumps_append (hs _ _) ?_)
          exact jumps_end (c := [lnF 12 0]) rfl (fresh_ne _ _) (ih b mb t _) (by simp [lnF]) rfl
        · simp only [if_neg h21]
          refine jumps_append (ih a ma t n) ?_
          exact jumps_end (c := []) rfl (fresh_ne _ _) (ih b mb t _) (by simp) rfl
      · rw [if_neg h20]
        by_cases h33 : regsE a = 3 ∧ regsE b = 3
        · rw [if_pos h33]
          simp only
          exact jumps_append (ih b mb t n) (jumps_append (hs _ _) (jumps_append (ih a ma (t + 1) _) (jumps_append (hs _ _) hO')))
        · rw [if_neg h33]
          by_cases hlt : regsE a < regsE b
          · rw [if_pos hlt]
            simp only
            exact jumps_append (ih b mb t n) (jumps_append (ih a ma t _) (jumps_append (jumps_of (by simp [lnO, lnF])) hO'))
          · rw [if_neg hlt]
            simp only
            exact jumps_append (ih a ma t n) (jumps_append (ih b mb t _) hO')
/-- A store goes into a temporary. -/
theorem code_temps (env : CEnv) (e : KE) : ∀ (t : Int) (n : Nat), ∀ x ∈ (codeE env e t n).1, x.fn ≠ 14 ∧ x.frm = [] ∧ (x.fn = 13 → t ≤ x.arg ∧ x.arg < t + tempsE e) := by
  induction e using KE.ind with
  | h e ih =>
    intro t n
    match hl : e.l with
    | [] =>
      rw [codeE_0 env hl]
      split <;> simp [lnF]
    | [a] =>
      rw [codeE_1 env hl]
      intro x hx
      rcases List.mem_append.1 hx with hx | hx
      · have := ih a (by rw [hl]; simp) t n x hx
        rw [(regsE_1 hl).2.1]
        exact this
      · have := after_mem hx
        exact ⟨by omega, this.2.2.1, by omega⟩
    | a :: b :: r =>
      have ma : a ∈ e.l := by rw [hl]; simp
      have mb : b ∈ e.l := by rw [hl]; simp
      have ht := (regsE_2 hl).2.1
      have hO : ∀ x ∈ operL e.oper, x.fn ≠ 14 ∧ x.frm = [] ∧ (x.fn = 13 → t ≤ x.arg ∧ x.arg < t + tempsE e) := fun x hx => by
        have := oper_mem hx
        exact ⟨by omega, this.2.2.1, by omega⟩
      have hA : tempsE a ≤ tempsE e ∧ tempsE b ≤ tempsE e := by rw [ht]; split <;> omega
      have hia : ∀ m, ∀ x ∈ (codeE env a t m).1, x.fn ≠ 14 ∧ x.frm = [] ∧ (x.fn = 13 → t ≤ x.arg ∧ x.arg < t + tempsE e) := fun m x hx => by
        have := ih a ma t m x hx
        exact ⟨this.1, this.2.1, fun h => by have := this.2.2 h; omega⟩
      have hib : ∀ m, ∀ x ∈ (codeE env b t m).1, x.fn ≠ 14 ∧ x.frm = [] ∧ (x.fn = 13 → t ≤ x.arg ∧ x.arg < t + tempsE e) := fun m x hx => by
        have := ih b mb t m x hx
        exact ⟨this.1, this.2.1, fun h => by have := this.2.2 h; omega⟩
      rw [codeE_2 env hl]
      by_cases h20 : e.oper = 20 ∨ e.oper = 21
      · rw [if_pos h20]
        by_cases h21 : e.oper = 21
        · simp only [if_pos h21]
          intro x hx
          simp only [List.mem_append, List.mem_cons, List.not_mem_nil, or_false] at hx
          rcases hx with hx | rfl | rfl | hx | rfl | rfl
          · exact hia _ x hx
          · simp [lnF]
          · simp [lnJ]
          · exact hib _ x hx
          · simp [lnF]
          · simp
        · simp only [if_neg h21]
          intro x hx
          simp only [List.mem_append, List.mem_cons, List.not_mem_nil, or_false] at hx
          rcases hx with hx | rfl | hx | rfl
          · exact hia _ x hx
          · simp [lnJ]
          · exact hib _ x hx
          · simp
      · rw [if_neg h20]
        by_cases h33 : regsE a = 3 ∧ regsE b = 3
        · rw [if_pos h33]
          rw [if_pos (by omega)] at ht
          simp only
          intro x hx
          simp only [List.mem_append, List.mem_cons, List.not_mem_nil, or_false] at hx
          rcases hx with hx | rfl | hx | rfl | hx
          · exact hib _ x hx
          · exact ⟨by simp [lnF], rfl, fun _ => ⟨by simp [lnF], by simp [lnF]; omega⟩⟩
          · have := ih a ma (t + 1) _ x hx
            exact ⟨this.1, this.2.1, fun h => by have := this.2.2 h; omega⟩
          · simp [lnF]
          · exact hO x hx
        · rw [if_neg h33]
          by_cases hlt : regsE a < regsE b
          · rw [if_pos hlt]
            simp only
            intro x hx
            simp only [List.mem_append, List.mem_cons, List.not_mem_nil, or_false] at hx
            rcases hx with hx | hx | rfl | hx
            · exact hib _ x hx
            · exact hia _ x hx
            · simp [lnO, lnF]
            · exact hO x hx
          · rw [if_neg hlt]
            simp only
            intro x hx
            simp only [List.mem_append] at hx
            rcases hx with hx | hx | hx
            · exact hia _ x hx
            · exact hib _ x hx
            · exact hO x hx
end Go.Proofs.YtbefmlioampgcaaGreatDoor

/- How long the code of an expression is, in plain words. -/
namespace Go.Proofs.YtbefmlioampgcaaGreatDoor
open Go.RowKit
set_option linter.unusedVariables false
set_option linter.unusedSimpArgs false

mutual
/-- How many expressions there are in one. -/
def nodesE : KE → Nat
  | ⟨_, _, _, _, _, _, _, l⟩ => nodesL l + 1
def nodesL : List KE → Nat
  | [] => 0
  | e :: l => nodesE e + nodesL l
end
theorem nodesE_eq (e : KE) : nodesE e = nodesL e.l + 1 := by
  obtain ⟨k, o, t, n, v, A, c, l⟩ := e
  rw [nodesE]
theorem roomL_nodes_of : ∀ {l : List KE} {inside left r : Nat}, (∀ e ∈ l, ∀ (a r : Nat), roomE inside a e = some r → nodesE e + r = a) → roomL inside left l = some r → nodesL l + r = left
  | [], inside, left, r, _, h => by rw [roomL] at h; injection h with h; rw [nodesL]; omega
  | x :: l, inside, left, r, hall, h => by
    rw [roomL] at h
    cases hx : roomE inside left x with
    | none => rw [hx] at h; cases h
    | some y =>
      rw [hx] at h
      have h1 := hall x (by simp) _ _ hx
      have h2 := roomL_nodes_of (l := l) (fun e he => hall e (by simp [he])) h
      rw [nodesL]
      omega
theorem roomE_nodes (e : KE) : ∀ (inside left r : Nat), roomE inside left e = some r → nodesE e + r = left := by
  induction e using KE.ind with
  | h e ih =>
    intro inside left r h
    rw [roomE_eq] at h
    split at h
    · cases h
    · rename_i hc
      have := roomL_nodes_of (fun x hx a r => ih x hx (inside + 1) a r) h
      have h0 : left ≠ 0 := by intro h; subst h; simp at hc
      rw [nodesE_eq]
      omega
theorem valid_nodes {e : KE} (h : validE e = true) : nodesE e ≤ 256 := by
  unfold validE at h
  cases hr : roomE 0 256 e with
  | none => rw [hr] at h; cases h
  | some r => have := roomE_nodes e _ _ _ hr; omega
theorem oper_len (o : Nat) : (operL o).length ≤ 3 ∧ 1 ≤ (operL o).length := by
  unfold operL
  repeat' split
  all_goals simp
theorem after_len (env : CEnv) (k o tk : Nat) (v : Int) : (afterL env k o tk v).length ≤ 7 := by
  unfold afterL
  repeat' split
  all_goals simp
theorem nodesE_1 {e a : KE} (h : e.l = [a]) : nodesE e = nodesE a + 1 := by rw [nodesE_eq, h, nodesL, nodesL]
theorem nodesE_2 {e a b : KE} {r : List KE} (h : e.l = a :: b :: r) : nodesE a + nodesE b + 1 ≤ nodesE e := by
  have := nodesE_eq e
  rw [h, nodesL, nodesL] at this
  omega
theorem code_len (env : CEnv) (e : KE) : ∀ (t : Int) (n : Nat), (codeE env e t n).1.length ≤ 8 * nodesE e ∧ (codeE env e t n).2 + 1 ≤ n + nodesE e ∧ 1 ≤ (codeE env e t n).1.length := by
  induction e using KE.ind with
  | h e ih =>
    intro t n
    have h1 : 1 ≤ nodesE e := by rw [nodesE_eq]; omega
    match hl : e.l with
    | [] =>
      rw [codeE_0 env hl]
      split <;> simp <;> omega
    | [a] =>
      rw [codeE_1 env hl, nodesE_1 hl]
      have := ih a (by rw [hl]; simp) t n
      have := after_len env e.kind e.oper e.tk e.v
      simp only [List.length_append]
      omega
    | a :: b :: r =>
      have hia := ih a (by rw [hl]; simp)
      have hib := ih b (by rw [hl]; simp)
      have := nodesE_2 hl
      have := oper_len e.oper
      rw [codeE_2 env hl]
      by_cases h20 : e.oper = 20 ∨ e.oper = 21
      · rw [if_pos h20]
        have h1 := hia t n
        have h2 := hib t ((codeE env a t n).2 + 1)
        by_cases h21 : e.oper = 21
        · simp only [if_pos h21, List.length_append, List.length_cons, List.length_nil]
          omega
        · simp only [if_neg h21, List.length_append, List.length_cons, List.length_nil]
          omega
      · rw [if_neg h20]
        by_cases h33 : regsE a = 3 ∧ regsE b = 3
        · rw [if_pos h33]
          have h1 := hib t n
          have h2 := hia (t + 1) (codeE env b t n).2
          simp only [List.length_append, List.length_cons, List.length_nil]
          omega
        · rw [if_neg h33]
          by_cases hlt : regsE a < regsE b
          · rw [if_pos hlt]
            have h1 := hib t n
            have h2 := hia t (codeE env b t n).2
            simp only [List.length_append, List.length_cons, List.length_nil]
            omega
          · rw [if_neg hlt]
            have h1 := hia t n
            have h2 := hib t (codeE env a t n).2
            simp only [List.length_append]
            omega
end Go.Proofs.YtbefmlioampgcaaGreatDoor
