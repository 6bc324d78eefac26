/- Texts that belong together, joined: what each one holds is told ahead of it. -/
import Derived.Test.YtbefmlioampgcaaGreatDoorHK12
import Derived.Test.YtbefmlioampgcaaGreatDoorHK18
import Derived.Test.YtbefmlioampgcaaGreatDoorHK22
import Derived.Test.YtbefmlioampgcaaGreatDoorHK10
set_option linter.unusedVariables false
set_option linter.unusedSimpArgs false
/- GenexpTemps: the plain part, own and later. -/
namespace Go.Proofs.YtbefmlioampgcaaGreatDoor
open Go.RowKit
set_option linter.unusedVariables false
set_option linter.unusedSimpArgs false

/-- Each jump of a code goes to one line, that lies behind it. -/
theorem labs_get : ∀ {ls : List LineL} {s : List UInt8}, s ∈ labs ls → (labs ls).Nodup → ∃ (k : Nat) (y : LineL), ls[k]? = some y ∧ y.label = s ∧ ∀ (k' : Nat) (y' : LineL), ls[k']? = some y' → y'.label = s → k' = k
  | [], s, h, _ => by simp [labs] at h
  | x :: l, s, h, hn => by
    by_cases hx : x.label = s
    · refine ⟨0, x, rfl, hx, ?_⟩
      intro k' y' hy he
      cases k' with
      | zero => rfl
      | succ k' =>
        have hs : s ≠ [] := (mem_labs.1 h).1
        rw [labs_yes x (by rw [hx]; exact hs)] at hn
        have : x.label ∈ labs l := mem_labs.2 ⟨by rw [hx]; exact hs, y', List.mem_of_getElem? (by simpa using hy), by rw [he, hx]⟩
        exact absurd this (List.nodup_cons.1 hn).1
    · have hl : s ∈ labs l := by
        obtain ⟨h1, y, hy, h2⟩ := mem_labs.1 h
        rcases List.mem_cons.1 hy with rfl | hy
        · exact absurd h2 hx
        · exact mem_labs.2 ⟨h1, y, hy, h2⟩
      have hn2 : (labs l).Nodup := by
        by_cases hxe : x.label = []
        · rwa [labs_no x hxe] at hn
        · rw [labs_yes x hxe] at hn
          exact (List.nodup_cons.1 hn).2
      obtain ⟨k, y, h1, h2, h3⟩ := labs_get hl hn2
      refine ⟨k + 1, y, h1, h2, ?_⟩
      intro k' y' hy he
      cases k' with
      | zero => simp at hy; subst hy; exact absurd he hx
      | succ k' => rw [h3 k' y' (by simpa using hy) he]
theorem jumps_at : ∀ {ls : List LineL} {i : Nat} {x : LineL}, jumpsOk ls → ls[i]? = some x → x.target = [] ∨ x.target = stopT ∨ x.target ∈ labs (ls.drop (i + 1))
  | [], i, x, _, h => by simp at h
  | y :: l, 0, x, h, hx => by simp at hx; subst hx; exact h.1
  | y :: l, i + 1, x, h, hx => by simpa using jumps_at h.2 (by simpa using hx)
theorem later_of {ls : List LineL} {i : Nat} {x : LineL} (hj : jumpsOk ls) (hn : (labs ls).Nodup) (hx : ls[i]? = some x) (h1 : x.target ≠ []) (h2 : x.target ≠ stopT) :
    ∃ (k : Nat) (y : LineL), i + 1 ≤ k ∧ ls[k]? = some y ∧ y.label = x.target ∧ ∀ (k' : Nat) (y' : LineL), ls[k']? = some y' → y'.label = x.target → k' = k := by
  have h3 : x.target ∈ labs (ls.drop (i + 1)) := by
    rcases jumps_at hj hx with h | h | h
    · exact absurd h h1
    · exact absurd h h2
    · exact h
  have h4 : x.target ∈ labs ls := by
    obtain ⟨h5, y, h6, h7⟩ := mem_labs.1 h3
    exact mem_labs.2 ⟨h5, y, List.mem_of_mem_drop h6, h7⟩
  obtain ⟨k, y, h5, h6, h7⟩ := labs_get h4 hn
  refine ⟨k, y, ?_, h5, h6, h7⟩
  obtain ⟨-, z, hz, hz2⟩ := mem_labs.1 h3
  obtain ⟨q, hq⟩ := List.mem_iff_getElem?.1 hz
  rw [List.getElem?_drop] at hq
  have := h7 _ _ hq hz2
  omega
end Go.Proofs.YtbefmlioampgcaaGreatDoor

/- The code of a safe expression has no jump to stop. -/
namespace Go.Proofs.YtbefmlioampgcaaGreatDoor
open Go.RowKit
set_option linter.unusedVariables false
set_option linter.unusedSimpArgs false

theorem fresh_stop (env : CEnv) (j : Nat) : freshL env j ≠ stopT := by
  intro h
  have h1 : (46 : UInt8) ∈ freshL env j := by unfold freshL; simp
  rw [h] at h1
  revert h1
  decide
end Go.Proofs.YtbefmlioampgcaaGreatDoor

/- Run takes every line of an expression's code, and its labels are right. -/
namespace Go.Proofs.YtbefmlioampgcaaGreatDoor
open Go.RowKit
set_option linter.unusedVariables false
set_option linter.unusedSimpArgs false

theorem runs_F {f : Nat} (a : Int) (h : f = 4 ∨ f = 12 ∨ f = 1 ∨ f = 7 ∨ f = 13 ∨ f = 3) : runsB (lnF f a) = true := by
  rcases h with rfl | rfl | rfl | rfl | rfl | rfl <;> simp [runsB, lnF]
theorem runs_J {s : List UInt8} (h : s ≠ []) : runsB (lnJ s) = true := by
  simp [runsB, lnJ, h]
theorem runs_O {q : Int} (h : knownB q = true) : runsB (lnO q) = true := by
  simp [runsB, lnO, lnF, h]
theorem known_all : ∀ q ∈ ([0, 5, 12, 83, 44, 31, 82, 4, 8, 70, 75, 51, 65, 64, 9, 19, 41, 10, 50] : List Int), knownB q = true := by decide +kernel
theorem runs_oper {o : Nat} (h1 : 1 ≤ o) (h2 : o ≤ 22) : ∀ x ∈ operL o, runsB x = true := by
  have h : ∀ o : Fin 23, 1 ≤ o.1 → (operL o.1).all runsB = true := by decide +kernel
  intro x hx
  exact List.all_eq_true.1 (h ⟨o, by omega⟩ h1) x hx
theorem runs_after (env : CEnv) (k o tk : Nat) (v : Int) : ∀ x ∈ afterL env k o tk v, runsB x = true := by
  intro x h
  have hk := fun q h => runs_O (known_all q h)
  have hs : stopT ≠ [] := by decide
  unfold afterL at h
  repeat' split at h
  all_goals
    first
      | exact absurd h List.not_mem_nil
      | (simp only [List.mem_cons, List.not_mem_nil, or_false] at h; rcases h with rfl | rfl | rfl | rfl | rfl | rfl | rfl <;> first | exact hk _ (by simp) | exact runs_J hs | exact runs_F _ (by simp))
      | (simp only [List.mem_cons, List.not_mem_nil, or_false] at h; rcases h with rfl | rfl | rfl <;> first | exact hk _ (by simp) | exact runs_F _ (by simp))
      | (simp only [List.mem_cons, List.not_mem_nil, or_false] at h; rcases h with rfl | rfl <;> first | exact hk _ (by simp) | exact runs_F _ (by simp))
      | (simp only [List.mem_cons, List.not_mem_nil, or_false] at h; subst h; first | exact hk _ (by simp) | exact runs_F _ (by simp))
theorem code_runs (env : CEnv) (e : KE) : e.all (fun x => fieldsB x = true) → ∀ (t : Int) (n : Nat), ∀ x ∈ (codeE env e t n).1, runsB x = true := by
  induction e using KE.ind with
  | h e ih =>
    intro hall t n
    have hf := (KE.all_iff.1 hall).1
    have hpa := (KE.all_iff.1 hall).2
    match hl : e.l with
    | [] =>
      rw [codeE_0 env hl]
      split <;> (intro x hx; simp at hx; subst hx; exact runs_F _ (by simp))
    | [a] =>
      have ma : a ∈ e.l := by rw [hl]; simp
      rw [codeE_1 env hl]
      intro x hx
      rcases List.mem_append.1 hx with hx | hx
      · exact ih a ma (hpa a ma) t n x hx
      · exact runs_after _ _ _ _ _ x hx
    | a :: b :: r =>
      have ma : a ∈ e.l := by rw [hl]; simp
      have mb : b ∈ e.l := by rw [hl]; simp
      have hia := fun t n => ih a ma (hpa a ma) t n
      have hib := fun t n => ih b mb (hpa b mb) t n
      have h5 := (fieldsB_len hf).2.2 (by have := (fieldsB_len hf).1; rw [hl] at this ⊢; simp at this ⊢; omega)
      have hO := runs_oper h5.2.1 h5.2.2
      have hA : ∀ s : List UInt8, runsB ⟨s, 8, 0, [], []⟩ = true ∧ runsB ⟨s, 12, 0, [], []⟩ = true := fun s => by simp [runsB]
      rw [codeE_2 env hl]
      by_cases h20 : e.oper = 20 ∨ e.oper = 21
      · rw [if_pos h20]
        by_cases h21 : e.oper = 21
        · simp only [if_pos h21]
          intro x hx
          simp only [List.mem_append, List.mem_cons, List.not_mem_nil, or_false] at hx
          rcases hx with hx | rfl | rfl | hx | rfl | rfl
          · exact hia _ _ x hx
          · exact runs_F _ (by simp)
          · exact runs_J (fresh_ne _ _)
          · exact hib _ _ x hx
          · exact runs_F _ (by simp)
          · exact (hA _).2
        · simp only [if_neg h21]
          intro x hx
          simp only [List.mem_append, List.mem_cons, List.not_mem_nil, or_false] at hx
          rcases hx with hx | rfl | hx | rfl
          · exact hia _ _ x hx
          · exact runs_J (fresh_ne _ _)
          · exact hib _ _ x hx
          · exact (hA _).1
      · rw [if_neg h20]
        by_cases h33 : regsE a = 3 ∧ regsE b = 3
        · rw [if_pos h33]
          simp only
          intro x hx
          simp only [List.mem_append, List.mem_cons, List.not_mem_nil, or_false] at hx
          rcases hx with hx | rfl | hx | rfl | hx
          · exact hib _ _ x hx
          · exact runs_F _ (by simp)
          · exact hia _ _ x hx
          · exact runs_F _ (by simp)
          · exact hO x hx
        · rw [if_neg h33]
          by_cases hlt : regsE a < regsE b
          · rw [if_pos hlt]
            simp only
            intro x hx
            simp only [List.mem_append, List.mem_cons, List.not_mem_nil, or_false] at hx
            rcases hx with hx | hx | rfl | hx
            · exact hib _ _ x hx
            · exact hia _ _ x hx
            · exact runs_O (known_all _ (by simp))
            · exact hO x hx
          · rw [if_neg hlt]
            simp only
            intro x hx
            simp only [List.mem_append] at hx
            rcases hx with hx | hx | hx
            · exact hia _ _ x hx
            · exact hib _ _ x hx
            · exact hO x hx
end Go.Proofs.YtbefmlioampgcaaGreatDoor

/- The code of an expression has no fault that Run sees ahead. -/
namespace Go.Proofs.YtbefmlioampgcaaGreatDoor
open Go.RowKit
set_option linter.unusedVariables false
set_option linter.unusedSimpArgs false

theorem atL_one {ls : List LineL} {k : Nat} {s : List UInt8} {y : LineL} (hy : ls[k]? = some y) (hs : y.label = s) (hu : ∀ (k' : Nat) (y' : LineL), ls[k']? = some y' → y'.label = s → k' = k) : atL ls s = some k := by
  unfold atL
  rw [List.findIdx?_eq_some_iff_getElem]
  obtain ⟨h1, h2⟩ := List.getElem?_eq_some_iff.1 hy
  refine ⟨h1, by rw [h2]; simp [hs], ?_⟩
  intro j hj he
  have hjl : j < ls.length := by omega
  have := hu j ls[j] (List.getElem?_eq_getElem hjl) (by simpa using he)
  omega
theorem code_fault (env : CEnv) (e : KE) (hall : e.all (fun x => fieldsB x = true)) (t : Int) (n : Nat) : faultE (codeE env e t n).1 = 0 := by
  have hl := (code_labs env e t n).2.1
  have hj := code_jumps env e t n
  have hr := code_runs env e hall t n
  generalize (codeE env e t n).1 = ls at *
  unfold faultE
  rw [if_pos (List.all_eq_true.2 hr), if_pos]
  rw [List.all_eq_true]
  rintro ⟨x, i⟩ hx
  have hxi : ls[i]? = some x := by
    have := List.mem_zipIdx_iff_getElem?.1 hx
    simpa using this
  simp only [okR, Bool.and_eq_true, Bool.or_eq_true]
  constructor
  · by_cases h : x.label = []
    · left; rw [h]; rfl
    · right
      have hm : x.label ∈ labs ls := mem_labs.2 ⟨h, x, List.mem_of_getElem? hxi, rfl⟩
      obtain ⟨k, y, h1, h2, h3⟩ := labs_get hm hl
      have hk := h3 i x hxi rfl
      subst hk
      rw [atL_one h1 h2 h3]
      simp
  · by_cases h1 : x.target = []
    · left; left; rw [h1]; rfl
    · by_cases h2 : x.target = stopT
      · left; right; rw [h2]; simp
      · right
        obtain ⟨k, y, hk1, hk2, hk3, hk4⟩ := later_of hj hl hxi h1 h2
        rw [atL_one hk2 hk3 hk4]
        simp
        omega
end Go.Proofs.YtbefmlioampgcaaGreatDoor

/- Lines that never set the error flag and never leave the words. -/
namespace Go.Proofs.YtbefmlioampgcaaGreatDoor
open Go.RowKit
set_option linter.unusedVariables false
set_option linter.unusedSimpArgs false

def StL (M : Nat) (r : RegL) (m : List Int) : Prop := r.Ok ∧ (∀ v ∈ m, is32 v) ∧ m.length = M
def quietL (M : Nat) (x : LineL) : Prop := is32 x.arg ∧ (x.fn = 4 ∨ x.fn = 12 ∨ (x.fn = 8 ∧ x.arg = 0) ∨ (x.fn = 15 ∧ x.arg ∈ ([0, 82, 4, 8, 70, 75, 51, 65, 64, 9, 50] : List Int)) ∨ ((x.fn = 7 ∨ x.fn = 13) ∧ 0 ≤ x.arg ∧ x.arg < M))
theorem quiet_step {M : Nat} {x : LineL} (hq : quietL M x) {r : RegL} {m : List Int} (hs : StL M r m) : ∃ r' m', stepO x r m = .go r' m' ∧ StL M r' m' ∧ r'.e = r.e := by
  obtain ⟨hx, hq⟩ := hq
  obtain ⟨h1, h2, h3⟩ := hs
  rcases hq with h | h | ⟨h, h0⟩ | ⟨h, ho⟩ | ⟨h, h0, hM⟩
  · exact ⟨plainO x r, m, by simp [stepO, accessB, h], ⟨plainO_ok hx h1, h2, h3⟩, by simp [plainO, h, RegL.push]⟩
  · exact ⟨plainO x r, m, by simp [stepO, accessB, h], ⟨plainO_ok hx h1, h2, h3⟩, by simp [plainO, h]⟩
  · refine ⟨plainO x r, m, by simp [stepO, accessB, h], ⟨plainO_ok hx h1, h2, h3⟩, ?_⟩
    have hw : wrap32 (r.a + 0) = r.a + 0 := by
      have := h1.1
      unfold is32 at this
      unfold wrap32
      omega
    simp only [plainO, h, h0, hw]
    simp
  · refine ⟨plainO x r, m, by simp [stepO, accessB, h], ⟨plainO_ok hx h1, h2, h3⟩, ?_⟩
    simp only [plainO, h]
    simp only [List.mem_cons, List.not_mem_nil, or_false] at ho
    rcases ho with ho | ho | ho | ho | ho | ho | ho | ho | ho | ho | ho <;> simp [ho, opR, binO, RegL.join]
  · cases hm : moveO x r m with
    | none =>
      exfalso
      unfold moveO wordK at hm
      have h3' : ¬ x.fn = 3 := by omega
      rw [if_neg h3'] at hm
      rw [if_neg (by omega)] at hm
      rcases h with h | h <;> simp [h] at hm
    | some q =>
      have hok := moveO_ok h1 h2 hm
      refine ⟨q.1, q.2, ?_, ⟨hok.1, hok.2.1, hok.2.2.trans h3⟩, ?_⟩
      · have ha : accessB x = true := by rcases h with h | h <;> simp [accessB, h]
        have h10 : ¬ x.fn = 10 := by omega
        unfold stepO
        rw [if_neg h10, ha, hm]
        simp
      · unfold moveO wordK at hm
        have h3' : ¬ x.fn = 3 := by omega
        rw [if_neg h3'] at hm
        rw [if_neg (by omega)] at hm
        rcases h with h | h <;> simp [h] at hm <;> subst hm <;> rfl
theorem quiet_run {M : Nat} : ∀ {l : List LineL}, (∀ x ∈ l, quietL M x) → ∀ (rest : List LineL) {r : RegL} {m : List Int}, StL M r m → ∃ r' m', runS (l ++ rest) none r m = runS rest none r' m' ∧ StL M r' m' ∧ r'.e = r.e
  | [], _, rest, r, m, hs => ⟨r, m, rfl, hs, rfl⟩
  | x :: l, hq, rest, r, m, hs => by
    obtain ⟨r1, m1, h1, h2, h3⟩ := quiet_step (hq x (by simp)) hs
    obtain ⟨r2, m2, h4, h5, h6⟩ := quiet_run (l := l) (fun y hy => hq y (by simp [hy])) rest h2
    refine ⟨r2, m2, ?_, h5, h6.trans h3⟩
    rw [List.cons_append, runS]
    simp [h1]
    exact h4
end Go.Proofs.YtbefmlioampgcaaGreatDoor

/- The code of a safe expression runs through: the error flag stays as it was. -/
namespace Go.Proofs.YtbefmlioampgcaaGreatDoor
open Go.RowKit
set_option linter.unusedVariables false
set_option linter.unusedSimpArgs false

/-- From these lines a run comes through to what stands behind them, the flag as before. -/
def Through (M : Nat) (l : List LineL) : Prop := ∀ (rest : List LineL) (r : RegL) (m : List Int), StL M r m → ∃ r' m', runS (l ++ rest) none r m = runS rest none r' m' ∧ StL M r' m' ∧ r'.e = r.e
theorem Through.quiet {M : Nat} {l : List LineL} (h : ∀ x ∈ l, quietL M x) : Through M l := fun rest _ _ hs => quiet_run h rest hs
theorem Through.append {M : Nat} {a b : List LineL} (ha : Through M a) (hb : Through M b) : Through M (a ++ b) := by
  intro rest r m hs
  obtain ⟨r1, m1, h1, h2, h3⟩ := ha (b ++ rest) r m hs
  obtain ⟨r2, m2, h4, h5, h6⟩ := hb rest r1 m1 h2
  exact ⟨r2, m2, by rw [List.append_assoc, h1, h4], h5, h6.trans h3⟩
end Go.Proofs.YtbefmlioampgcaaGreatDoor

/- The code of a safe expression runs through. -/
namespace Go.Proofs.YtbefmlioampgcaaGreatDoor
open Go.RowKit
set_option linter.unusedVariables false
set_option linter.unusedSimpArgs false

def offOk (env : CEnv) (M : Nat) (x : KE) : Prop := is32 x.n ∧ (x.kind = 2 → 0 ≤ env.off x.v ∧ env.off x.v < M)
end Go.Proofs.YtbefmlioampgcaaGreatDoor

/- Run of the code of a safe expression: not over, no error. -/
namespace Go.Proofs.YtbefmlioampgcaaGreatDoor
open Go.RowKit
set_option linter.unusedVariables false
set_option linter.unusedSimpArgs false

end Go.Proofs.YtbefmlioampgcaaGreatDoor
