/- Plain: in a valid network the program's tree is the reference's. -/
import Derived.Test.YtadpenphiagdmaaR9
namespace Go.Proofs.Ytadpenphiagdmaa
open Go.RowKit
set_option linter.unusedVariables false
set_option linter.unusedSimpArgs false

theorem nodup_all : ∀ (n : Nat) (l : List Int), l.Nodup → (∀ x ∈ l, 0 ≤ x ∧ x < n) → l.length = n → ∀ x : Int, 0 ≤ x → x < n → x ∈ l := by
  intro n l hd hr hn x h0 h1
  apply Classical.byContradiction
  intro hx
  have h2 : (x :: l).length ≤ n := nodup_short n (x :: l) (List.nodup_cons.2 ⟨hx, hd⟩) (fun y hy => by
    rcases List.mem_cons.1 hy with rfl | hy
    · exact ⟨h0, h1⟩
    · exact hr y hy)
  rw [List.length_cons] at h2
  omega
theorem find_unique {l : List Pt} (hd : (l.map (·.1)).Nodup) {p : Pt} (hp : p ∈ l) : l.find? (fun q => q.1 == p.1) = some p := by
  induction l with
  | nil => cases hp
  | cons y r ih =>
    simp only [List.map_cons, List.nodup_cons] at hd
    rcases List.mem_cons.1 hp with rfl | hp
    · simp
    · have hne : (y.1 == p.1) = false := by
        rw [beq_eq_false_iff_ne]
        intro e
        exact hd.1 (by rw [e]; exact List.mem_map_of_mem hp)
      rw [List.find?_cons_of_neg (by simp [hne])]
      exact ih hd.2 hp
theorem tset_get (l : List Pt) : ∀ (s : List Int), (l.map (·.1)).Nodup → (∀ q ∈ l, 0 ≤ q.1 ∧ q.1 < (s.length : Int)) → ∀ p ∈ l, (l.foldl (fun a p => a.set p.1.toNat p.2) s)[p.1.toNat]? = some p.2 := by
  have keep : ∀ (l : List Pt) (s : List Int) (n : Nat), (∀ q ∈ l, q.1.toNat ≠ n) → (l.foldl (fun a p => a.set p.1.toNat p.2) s)[n]? = s[n]? := by
    intro l
    induction l with
    | nil => exact fun s n _ => rfl
    | cons y r ih =>
      intro s n h
      rw [List.foldl_cons, ih _ n (fun q hq => h q (by simp [hq])), List.getElem?_set_ne (h y (by simp))]
  induction l with
  | nil => intro s _ _ p hp; cases hp
  | cons y r ih =>
    intro s hd hr p hp
    simp only [List.map_cons, List.nodup_cons] at hd
    rw [List.foldl_cons]
    rcases List.mem_cons.1 hp with rfl | hp
    · have hy := hr p (by simp)
      rw [keep r _ p.1.toNat (fun q hq e => hd.1 (by
        have hq2 := hr q (by simp [hq])
        have : q.1 = p.1 := by omega
        rw [← this]; exact List.mem_map_of_mem hq))]
      rw [List.getElem?_set_self (by omega)]
    · exact ih _ hd.2 (fun q hq => by rw [List.length_set]; exact hr q (by simp [hq])) p hp

theorem may_parts {N hn hl : Int} {ws : List Wire} (h : mayB N ws hn hl = true) : NetOk N ws hn ∧ Found N (orderOf ws hn hl) ∧ ((orderOf ws hn hl).length : Int) = N := by
  have hn' := mayB_net h
  refine ⟨hn', order_found hn' hl, ?_⟩
  simp only [mayB, Bool.and_eq_true, decide_eq_true_eq] at h
  exact h.2
/-- Every node is found; its link in the tree. -/
theorem up_tints {N hn hl : Int} {ws : List Wire} (h : mayB N ws hn hl = true) : ∀ x, 0 ≤ x → x < N → upOf ws hn hl x = (x, (tints N (orderOf ws hn hl)).getD x.toNat 0) := by
  obtain ⟨hok, hF, hlen⟩ := may_parts h
  intro x h0 h1
  have hN := hok.n1
  have hx : x ∈ (orderOf ws hn hl).map (·.1) := nodup_all N.toNat _ hF.nd (fun y hy => by
    obtain ⟨p, hp, rfl⟩ := List.mem_map.1 hy
    have := hF.rg p hp
    omega) (by rw [List.length_map]; omega) x h0 (by omega)
  obtain ⟨p, hp, rfl⟩ := List.mem_map.1 hx
  have h2 := tset_get (orderOf ws hn hl) (List.replicate N.toNat 0) hF.nd (fun q hq => by have := hF.rg q hq; rw [List.length_replicate]; omega) p hp
  rw [upOf, find_unique hF.nd hp, tints, List.getD_eq_getElem?_getD, h2]
  rfl
theorem tints_rtree {N hn hl : Int} {ws : List Wire} (h : mayB N ws hn hl = true) : tints N (orderOf ws hn hl) = rtreeOf N ws hn hl := by
  have hU := up_tints h
  refine List.ext_getElem? fun i => ?_
  rcases Nat.lt_or_ge i N.toNat with hi | hi
  · have hu := hU (i : Int) (by omega) (by omega)
    have hl : i < (tints N (orderOf ws hn hl)).length := by rw [tints_length]; exact hi
    rw [rtreeOf, List.getElem?_map, List.getElem?_range hi, Option.map_some, hu, List.getElem?_eq_getElem hl]
    simp only [Int.toNat_natCast, List.getD_eq_getElem?_getD, List.getElem?_eq_getElem hl]
    rfl
  · rw [List.getElem?_eq_none (by rw [tints_length]; exact hi), List.getElem?_eq_none (by rw [rtreeOf]; simp; omega)]
theorem tTreeR_eq (N hn hl : Int) (ws : List Wire) : tTreeR N ws hn hl = rTreeR N ws hn hl := by
  rw [tTreeR, rTreeR]
  cases h : mayB N ws hn hl
  · rfl
  · simp only [if_true, tints_rtree h]
theorem tChildrenR_eq (N hn hl node : Int) (ws : List Wire) : tChildrenR N ws hn hl node = rChildrenR N ws hn hl node := by
  rw [tChildrenR, rChildrenR]
  cases h : mayB N ws hn hl
  · rfl
  · have e : ∀ k, tchildB ws (tints N (orderOf ws hn hl)) hn node k = childB ws hn hl node k := fun k => by
      rw [tchildB, childB]
      cases hq : peerL ws node k with
      | none => rfl
      | some q =>
        have hr := peerL_ok (mayB_net h) hq
        simp only [up_tints h q.1 hr.1 hr.2, portEq]
        congr 1
        rw [Bool.eq_iff_iff]
        simp only [beq_iff_eq, decide_eq_true_eq, true_and]
        exact ⟨fun e => e.symm, fun e => e.symm⟩
    have e2 : tchildB ws (tints N (orderOf ws hn hl)) hn node = childB ws hn hl node := funext e
    simp only [tchildren, rchildren, e2]
end Go.Proofs.Ytadpenphiagdmaa
