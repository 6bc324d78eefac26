/- Texts that belong together, joined: what each one holds is told ahead of it. -/
import Derived.Test.YtbefmlioampgcaaGreatDoorHSK
import Derived.Test.YtbefmlioampgcaaGreatDoorHK25
set_option linter.unusedVariables false
set_option linter.unusedSimpArgs false
/- The lines of a code are lines that memory can hold; plain. -/
namespace Go.Proofs.YtbefmlioampgcaaGreatDoor
open Go.RowKit
set_option linter.unusedVariables false
set_option linter.unusedSimpArgs false

theorem arg_small {x : LineL} (h : -1000000 ≤ x.arg ∧ x.arg ≤ 1000000) : is32 x.arg := by unfold is32; omega
theorem oper_arg {o : Nat} {x : LineL} (h : x ∈ operL o) : is32 x.arg := by
  refine arg_small ?_
  have hs : -1000000 ≤ singleO o ∧ singleO o ≤ 1000000 := by
    unfold singleO
    have h : ∀ q ∈ ([0, 5, 12, 83, 44, 31, 82, 4, 8, 70, 75, 51, 65, 64] : List Int), -1000000 ≤ q ∧ q ≤ 1000000 := by decide
    rw [List.getD_eq_getElem?_getD]
    cases hq : ([0, 5, 12, 83, 44, 31, 82, 4, 8, 70, 75, 51, 65, 64] : List Int)[o]? with
    | none => simp
    | some q => exact h q (List.mem_of_getElem? hq)
  unfold operL at h
  repeat' split at h
  all_goals
    simp only [List.mem_cons, List.not_mem_nil, or_false] at h
    first
      | (subst h; exact hs)
      | (subst h; simp [lnF, lnO]; done)
      | (rcases h with rfl | rfl <;> simp [lnF, lnO] <;> done)
      | (rcases h with rfl | rfl | rfl <;> simp [lnF, lnO] <;> done)
theorem after_arg {env : CEnv} (hd : ∀ v, is32 (env.dim v)) (ho : ∀ v, is32 (env.off v)) {k o tk : Nat} {v : Int} {x : LineL} (h : x ∈ afterL env k o tk v) : is32 x.arg := by
  unfold afterL at h
  split at h
  · simp only [List.mem_cons, List.not_mem_nil, or_false] at h
    rcases h with rfl | rfl | rfl | rfl | rfl | rfl | rfl
    · exact hd v
    · exact arg_small (by simp [lnF, lnO])
    · exact arg_small (by simp [lnF, lnO])
    · exact arg_small (by simp [lnJ])
    · exact ho v
    · exact arg_small (by simp [lnF, lnO])
    · exact arg_small (by simp [lnF, lnO])
  · refine arg_small ?_
    repeat' split at h
    all_goals
      first
        | exact absurd h List.not_mem_nil
        | (simp only [List.mem_cons, List.not_mem_nil, or_false] at h; rcases h with rfl | rfl | rfl <;> simp [lnF, lnO, lnJ])
        | (simp only [List.mem_cons, List.not_mem_nil, or_false] at h; rcases h with rfl | rfl <;> simp [lnF, lnO, lnJ])
        | (simp only [List.mem_cons, List.not_mem_nil, or_false] at h; subst h; simp [lnF, lnO, lnJ])
theorem code_arg {env : CEnv} (hd : ∀ v, is32 (env.dim v)) (ho : ∀ v, is32 (env.off v)) (e : KE) : e.all (fun x => is32 x.n) → ∀ (t : Int) (n : Nat), 0 ≤ t → t + tempsE e ≤ 1000000 → ∀ x ∈ (codeE env e t n).1, is32 x.arg := by
  induction e using KE.ind with
  | h e ih =>
    intro hall t n ht htM
    obtain ⟨h32, hpa⟩ := KE.all_iff.1 hall
    match hl : e.l with
    | [] =>
      rw [codeE_0 env hl]
      split
      · intro x hx; simp at hx; subst hx; exact h32
      · intro x hx; simp at hx; subst hx; exact ho e.v
    | [a] =>
      rw [codeE_1 env hl]
      intro x hx
      have := (regsE_1 hl).2.1
      rcases List.mem_append.1 hx with hx | hx
      · exact ih a (by rw [hl]; simp) (hpa a (by rw [hl]; simp)) t n ht (by omega) x hx
      · exact after_arg hd ho hx
    | a :: b :: r =>
      have hte := (regsE_2 hl).2.1
      have hia := fun t n => ih a (by rw [hl]; simp) (hpa a (by rw [hl]; simp)) t n
      have hib := fun t n => ih b (by rw [hl]; simp) (hpa b (by rw [hl]; simp)) t n
      rw [codeE_2 env hl]
      by_cases h20 : e.oper = 20 ∨ e.oper = 21
      · have htA : t + tempsE a ≤ 1000000 ∧ t + tempsE b ≤ 1000000 := by
          rw [if_neg (by omega)] at hte; omega
        rw [if_pos h20]
        by_cases h21 : e.oper = 21
        · simp only [if_pos h21]
          intro x hx
          simp only [List.mem_append, List.mem_cons, List.not_mem_nil, or_false] at hx
          rcases hx with hx | rfl | rfl | hx | rfl | rfl
          · exact hia _ _ ht htA.1 x hx
          · exact arg_small (by simp [lnF])
          · exact arg_small (by simp [lnJ])
          · exact hib _ _ ht htA.2 x hx
          · exact arg_small (by simp [lnF])
          · exact arg_small (by simp)
        · simp only [if_neg h21]
          intro x hx
          simp only [List.mem_append, List.mem_cons, List.not_mem_nil, or_false] at hx
          rcases hx with hx | rfl | hx | rfl
          · exact hia _ _ ht htA.1 x hx
          · exact arg_small (by simp [lnJ])
          · exact hib _ _ ht htA.2 x hx
          · exact arg_small (by simp)
      · rw [if_neg h20]
        by_cases h33 : regsE a = 3 ∧ regsE b = 3
        · rw [if_pos (by omega)] at hte
          rw [if_pos h33]
          simp only
          have htI : -2147483648 ≤ t ∧ t ≤ 2147483647 := by omega
          intro x hx
          simp only [List.mem_append, List.mem_cons, List.not_mem_nil, or_false] at hx
          rcases hx with hx | rfl | hx | rfl | hx
          · exact hib _ _ ht (by omega) x hx
          · exact htI
          · exact hia _ _ (by omega) (by omega) x hx
          · exact htI
          · exact oper_arg hx
        · rw [if_neg (by omega)] at hte
          rw [if_neg h33]
          by_cases hlt : regsE a < regsE b
          · rw [if_pos hlt]
            simp only
            intro x hx
            simp only [List.mem_append, List.mem_cons, List.not_mem_nil, or_false] at hx
            rcases hx with hx | hx | rfl | hx
            · exact hib _ _ ht (by omega) x hx
            · exact hia _ _ ht (by omega) x hx
            · exact arg_small (by simp [lnO, lnF])
            · exact oper_arg hx
          · rw [if_neg hlt]
            simp only
            intro x hx
            simp only [List.mem_append] at hx
            rcases hx with hx | hx | hx
            · exact hia _ _ ht (by omega) x hx
            · exact hib _ _ ht (by omega) x hx
            · exact oper_arg hx
theorem fresh_len (env : CEnv) (h : env.label.length ≤ 24) {j : Nat} (hj : j ≤ 1000000) : (freshL env j).length ≤ 100 := by
  unfold freshL
  have := dec_le hj
  simp only [List.length_append, List.length_cons, List.length_nil]
  omega
theorem code_lok (g : EmL) (e : KE) (h32 : e.all (fun x => is32 x.n)) (temp : Int) (he : errC g e temp = 0) : ∀ x ∈ (codeE g.env e temp 0).1, LOk x := by
  have hv := errC_valid he
  have hb := errC_bounds he
  have hlab : g.env.label.length ≤ 24 := hb.2.2.2
  have hT : tempsE e ≤ 256 := Nat.le_trans (tempsE_room e (validE_all hv)) (valid_nodes hv)
  have hcl := (code_len g.env e temp 0).2
  have hnd := valid_nodes hv
  have hlb : ∀ s ∈ labs (codeE g.env e temp 0).1, s.length ≤ 100 := fun s hs => by
    obtain ⟨j, h1, h2, rfl⟩ := (code_labs g.env e temp 0).2.2 s hs
    exact fresh_len g.env hlab (by omega)
  have harg := code_arg (env := g.env) (fun v => by show is32 (wrap32 _); unfold is32 wrap32; omega) (fun v => by show is32 (wrap32 _); unfold is32 wrap32; omega) e h32 temp 0 hb.1 (by omega)
  intro x hx
  obtain ⟨k, hk⟩ := List.mem_iff_getElem?.1 hx
  refine ⟨code_fn g.env e temp 0 x hx, harg x hx, ?_, ?_, ?_⟩
  · by_cases hne : x.label = []
    · rw [hne]; simp
    · have := hlb _ (mem_labs.2 ⟨hne, x, hx, rfl⟩); omega
  · rcases jumps_at (code_jumps g.env e temp 0) hk with h | h | h
    · rw [h]; simp
    · rw [h]; simp [stopT]
    · obtain ⟨h1, y, h2, h3⟩ := mem_labs.1 h
      have := hlb _ (mem_labs.2 ⟨h1, y, List.mem_of_mem_drop h2, h3⟩)
      omega
  · rw [(code_temps g.env e temp 0 x hx).2.1]; simp
end Go.Proofs.YtbefmlioampgcaaGreatDoor

/- GenexpSafe, walked. -/
namespace Go.Proofs.YtbefmlioampgcaaGreatDoor
open Go.RowKit
set_option linter.unusedVariables false
set_option linter.unusedSimpArgs false

theorem i32_all {w : World} {B : Nat} {e : KE} (h : e.In w B) : e.all (fun x => is32 x.n) := KE.all_imp (fun x (hx : x.One w B) => (show is32 x.n from hx.1.2.2.2.1)) e h
end Go.Proofs.YtbefmlioampgcaaGreatDoor
