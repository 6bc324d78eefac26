/- Plain: in a valid network every node has a way up to the root. -/
import Derived.Test.YtadpenphiagdmaaP3
namespace Go.Proofs.Ytadpenphiagdmaa
open Go.RowKit
set_option linter.unusedVariables false
set_option linter.unusedSimpArgs false

theorem peerL_mem {ws : List Wire} {a b : Int} {q : Pt} (h : peerL ws a b = some q) : q ∈ portsOf ws := by
  induction ws with
  | nil => cases h
  | cons x r ih =>
    simp only [peerL] at h
    simp only [portsOf, List.flatMap_cons, List.mem_append, List.mem_cons, List.not_mem_nil, or_false]
    split at h
    · injection h with h; exact .inl (.inr h.symm)
    · split at h
      · injection h with h; exact .inl (.inl h.symm)
      · exact .inr (ih h)
theorem peerL_sym {ws : List Wire} (hd : (portsOf ws).Nodup) {a b : Int} {q : Pt} (h : peerL ws a b = some q) : peerL ws q.1 q.2 = some (a, b) := by
  induction ws with
  | nil => cases h
  | cons x r ih =>
    have e : portsOf (x :: r) = (x.a, x.b) :: (x.c, x.d) :: portsOf r := rfl
    rw [e, List.nodup_cons, List.nodup_cons] at hd
    obtain ⟨h1, h2, h3⟩ := hd
    simp only [List.mem_cons, not_or] at h1
    simp only [peerL] at h ⊢
    split at h
    · rename_i hab
      injection h with h; subst h
      rw [if_neg (fun e => h1.1 (by rw [Prod.mk.injEq]; exact e)), if_pos ⟨rfl, rfl⟩, hab.1, hab.2]
    · split at h
      · rename_i hcd
        injection h with h; subst h
        rw [if_pos ⟨rfl, rfl⟩, hcd.1, hcd.2]
      · have hm := peerL_mem h
        rw [if_neg, if_neg]
        · exact ih h3 h
        · rintro ⟨e1, e2⟩; exact h2 (by rw [e1, e2]; exact hm)
        · rintro ⟨e1, e2⟩; exact h1.2 (by rw [e1, e2]; exact hm)

/-- Each entry but the first has its parent ahead of it. -/
def Par (ws : List Wire) (hn : Int) (l : List Pt) : Prop :=
  ∀ k p, l[k]? = some p → (k = 0 ∧ p.1 = hn) ∨ ∃ j p' d, j < k ∧ l[j]? = some p' ∧ peerL ws p.1 p.2 = some (p'.1, d)
theorem Par.step {ws : List Wire} {hn : Int} {l : List Pt} (hd : (portsOf ws).Nodup) (h : Par ws hn l) {i : Nat} {p0 : Pt} (hi : l[i]? = some p0) (k : Nat) : Par ws hn (ordStep ws p0.1 l k) := by
  unfold ordStep
  split
  · rename_i q hq
    split
    · intro t p ht
      have hil := (List.getElem?_eq_some_iff.1 hi).1
      rcases Nat.lt_or_ge t l.length with hl | hl
      · rw [List.getElem?_append_left hl] at ht
        rcases h t p ht with h1 | ⟨j, p', d, h1, h2, h3⟩
        · exact .inl h1
        · exact .inr ⟨j, p', d, h1, by rw [List.getElem?_append_left (by omega)]; exact h2, h3⟩
      · rw [List.getElem?_append_right hl] at ht
        have ht0 : t - l.length = 0 := by
          have := (List.getElem?_eq_some_iff.1 ht).1
          simp at this; omega
        rw [ht0] at ht
        have : q = p := by simpa using ht
        subst this
        exact .inr ⟨i, p0, k, by omega, by rw [List.getElem?_append_left hil]; exact hi, peerL_sym hd hq⟩
    · exact h
  · exact h
theorem ordStep_get {ws : List Wire} {n : Int} {l : List Pt} {k i : Nat} {p : Pt} (h : l[i]? = some p) : (ordStep ws n l k)[i]? = some p := by
  obtain ⟨r, hr⟩ := ordStep_ext ws n l k
  rw [hr, List.getElem?_append_left (List.getElem?_eq_some_iff.1 h).1]; exact h
theorem ordL_par {ws : List Wire} {hn : Int} (hd : (portsOf ws).Nodup) : ∀ (f : Nat) (l : List Pt) (i : Nat), Par ws hn l → Par ws hn (ordL ws f l i)
  | 0, _, _, h => h
  | f + 1, l, i, h => by
    simp only [ordL]
    split
    · rename_i p hp
      refine ordL_par hd f _ _ ?_
      have g0 := ordStep_get (ws := ws) (n := p.1) (k := 0) hp
      have g1 := ordStep_get (ws := ws) (n := p.1) (k := 1) g0
      have g2 := ordStep_get (ws := ws) (n := p.1) (k := 2) g1
      exact (((h.step hd hp 0).step hd g0 1).step hd g1 2).step hd g2 3
    · exact h
theorem pathF_more {ws : List Wire} {hn hl : Int} : ∀ {f g : Nat} {x : Int} {a : List Int}, pathF ws hn hl f x = some a → f ≤ g → pathF ws hn hl g x = some a
  | 0, _, _, _, h, _ => by cases h
  | f + 1, 0, _, _, _, hg => by omega
  | f + 1, g + 1, x, a, h, hg => by
    simp only [pathF] at h ⊢
    split at h
    · rename_i hx; rw [if_pos hx]; exact h
    · rename_i hx
      rw [if_neg hx]
      rw [Option.map_eq_some_iff] at h ⊢
      obtain ⟨r, h1, h2⟩ := h
      exact ⟨r, pathF_more h1 (by omega), h2⟩
theorem may_nodup {N hn hl : Int} {ws : List Wire} (h : mayB N ws hn hl = true) : (portsOf ws).Nodup := by
  simp only [mayB, Bool.and_eq_true] at h
  have h2 := ((portsOk_iff N _).1 h.1.1.2).2
  rw [List.nodup_cons] at h2
  exact h2.2
theorem path_at {N hn hl : Int} {ws : List Wire} (h : mayB N ws hn hl = true) : ∀ (n k : Nat), k < n → ∀ p, (orderOf ws hn hl)[k]? = some p → ∃ a, pathF ws hn hl (k + 1) p.1 = some a ∧ a.length ≤ k + 1 := by
  have hpar : Par ws hn (orderOf ws hn hl) := ordL_par (may_nodup h) _ _ _ (fun k p hk => by
    cases k with
    | zero => simp at hk; subst hk; exact .inl ⟨rfl, rfl⟩
    | succ k => simp at hk)
  obtain ⟨hok, hF, hlen⟩ := may_parts h
  intro n
  induction n with
  | zero => intro k hk; omega
  | succ n ih =>
    intro k hk p hp
    by_cases hx : p.1 = hn
    · exact ⟨[p.1], by simp only [pathF, if_pos hx], by simp⟩
    · rcases hpar k p hp with ⟨_, h1⟩ | ⟨j, p', d, hj, hpj, hpe⟩
      · exact (hx h1).elim
      · obtain ⟨a, ha, hal⟩ := ih j (by omega) p' hpj
        have hup : upOf ws hn hl p.1 = p := by rw [upOf, find_unique hF.nd (List.mem_of_getElem? hp)]; rfl
        have hpa : parentOf ws hn hl p.1 = p'.1 := by rw [parentOf, hup, hpe]; rfl
        refine ⟨p.1 :: a, ?_, by simp; omega⟩
        simp only [pathF, if_neg hx, hpa]
        rw [pathF_more ha (by omega)]; rfl
/-- Every node has a way up. -/
theorem path_all {N hn hl : Int} {ws : List Wire} (h : mayB N ws hn hl = true) {x : Int} (h0 : 0 ≤ x) (h1 : x < N) : ∃ a, pathF ws hn hl 9 x = some a ∧ a.length ≤ 9 := by
  obtain ⟨hok, hF, hlen⟩ := may_parts h
  have hN := hok.n1
  have hx : x ∈ (orderOf ws hn hl).map (·.1) := nodup_all N.toNat _ hF.nd (fun y hy => by
    obtain ⟨p, hp, rfl⟩ := List.mem_map.1 hy
    have := hF.rg p hp
    omega) (by rw [List.length_map]; omega) x h0 (by omega)
  obtain ⟨p, hp, rfl⟩ := List.mem_map.1 hx
  obtain ⟨k, hk⟩ := List.mem_iff_getElem?.1 hp
  have hkl := (List.getElem?_eq_some_iff.1 hk).1
  have h8 := hF.short hok.n8
  obtain ⟨a, ha, hal⟩ := path_at h (k + 1) k (by omega) p hk
  exact ⟨a, pathF_more ha (by omega), by omega⟩
end Go.Proofs.Ytadpenphiagdmaa
