/- Route: the program's contract. -/
import Derived.Test.YtadpenphiagdmaaP5
namespace Go.Proofs.Ytadpenphiagdmaa
open Go.RowKit
set_option linter.unusedVariables false
set_option linter.unusedSimpArgs false

theorem path_range {N hn hl : Int} {ws : List Wire} (hok : NetOk N ws hn) : ∀ {f : Nat} {x : Int} {a : List Int}, pathF ws hn hl f x = some a → 0 ≤ x → x < N → ∀ z ∈ a, 0 ≤ z ∧ z < N
  | 0, _, _, h, _, _, _, _ => by cases h
  | f + 1, x, a, h, h0, h1, z, hz => by
    by_cases hx : x = hn
    · have := pathF_root h hx
      subst this
      simp at hz; subst hz; exact ⟨h0, h1⟩
    · obtain ⟨g, r, hg, rfl, hr⟩ := pathF_up h hx
      have : g = f := by omega
      subst this
      rcases List.mem_cons.1 hz with rfl | hz
      · exact ⟨h0, h1⟩
      · have hp := parent_ok (hl := hl) (x := x) hok
        exact path_range hok hr hp.1 hp.2 z hz
/-- A way up ends at the root. -/
theorem path_last {ws : List Wire} {hn hl : Int} : ∀ {f : Nat} {x : Int} {a : List Int}, pathF ws hn hl f x = some a → hn ∈ a
  | 0, _, _, h => by cases h
  | f + 1, x, a, h => by
    by_cases hx : x = hn
    · have := pathF_root h hx
      subst this; simp [hx]
    · obtain ⟨g, r, hg, rfl, hr⟩ := pathF_up h hx
      have : g = f := by omega
      subst this
      exact List.mem_cons_of_mem _ (path_last hr)
theorem first_met (a : List Int) : ∀ (b : List Int) (x : Int), x ∈ b → x ∈ a → ∃ (j : Nat) (y : Int), b[j]? = some y ∧ y ∈ a ∧ ∀ (t : Nat) (z : Int), t < j → b[t]? = some z → z ∉ a
  | [], _, h, _ => by cases h
  | y :: r, x, hb, ha => by
    by_cases hy : y ∈ a
    · exact ⟨0, y, rfl, hy, fun t z h => by omega⟩
    · rcases List.mem_cons.1 hb with rfl | hb
      · exact (hy ha).elim
      · obtain ⟨j, y', h1, h2, h3⟩ := first_met a r x hb ha
        refine ⟨j + 1, y', h1, h2, fun t z ht hz => ?_⟩
        cases t with
        | zero => simp at hz; subst hz; exact hy
        | succ t => exact h3 t z (by omega) hz
theorem tRoute (N hn hl : Int) (A : Option Addr) (m c : Nat) (ws : List Wire) (fr dn : Int) (w : World) (hr : Reads w w.heap.size 4 A m (wcells ws)) (hm : m ≤ 1000000) :
    Calls Try.prog 15 #[.agg #[.int .i64 N, .slice A m c, .int .i64 hn, .int .i64 hl], .int .i64 fr, .int .i64 dn] w (RetSE (rRouteR N ws hn hl fr dn).1 (rRouteR N ws hn hl fr dn).2 w) := by
  cases hmay : mayB N ws hn hl
  · have e : rRouteR N ws hn hl fr dn = ([], 2) := by simp [rRouteR, hmay]
    rw [e]
    exact tRoute_bad N hn hl A m c ws fr dn w hr hm 2 (.inl ⟨hmay, rfl⟩)
  · by_cases hin : (0 ≤ fr ∧ fr < N) ∧ (0 ≤ dn ∧ dn < N)
    · obtain ⟨a, ha, hal⟩ := path_all hmay hin.1.1 hin.1.2
      obtain ⟨b, hb, hbl⟩ := path_all hmay hin.2.1 hin.2.2
      have hok := mayB_net hmay
      have h8 := hok.n8
      have hra := path_range hok ha hin.1.1 hin.1.2
      have hrb := path_range hok hb hin.2.1 hin.2.2
      obtain ⟨j, y, hj, hya, hbef⟩ := first_met a b hn (path_last hb) (path_last ha)
      obtain ⟨i, hi⟩ := List.mem_iff_getElem?.1 hya
      have he := route_eq ha hb (fun z hz => by have := hra z hz; omega) (fun z hz => by have := hrb z hz; omega) hj hi hbef
      have e : rRouteR N ws hn hl fr dn = (trouteL ws hn hl a b, 0) := by
        rw [he]; simp only [rRouteR, hmay, if_true]; rw [if_neg (by omega), ha, hb]; rfl
      rw [e]
      exact tRoute_good N hn hl A m c ws fr dn a b 9 9 w hr hm hmay hin.1 hin.2 (up_tints hmay) ha hb hal hbl
    · have e : rRouteR N ws hn hl fr dn = ([], 4) := by
        simp only [rRouteR, hmay, if_true]; rw [if_pos (by omega)]
      rw [e]
      exact tRoute_bad N hn hl A m c ws fr dn w hr hm 4 (.inr ⟨hmay, rfl, hin⟩)
theorem rRoute (N hn hl : Int) (A : Option Addr) (m c : Nat) (ws : List Wire) (fr dn : Int) (w : World) (hr : Reads w w.heap.size 4 A m (wcells ws)) (hm : m ≤ 1000000) :
    Calls Try.prog 16 #[.agg #[.int .i64 N, .slice A m c, .int .i64 hn, .int .i64 hl], .int .i64 fr, .int .i64 dn] w (RetSE (rRouteR N ws hn hl fr dn).1 (rRouteR N ws hn hl fr dn).2 w) := by
  by_cases hbad : mayB N ws hn hl = false ∨ fr < 0 ∨ N ≤ fr ∨ dn < 0 ∨ N ≤ dn
  · exact rRoute_bad N hn hl A m c ws fr dn w hr hm hbad
  · simp only [not_or, Bool.not_eq_false] at hbad
    obtain ⟨hmay, h1, h2, h3, h4⟩ := hbad
    obtain ⟨a, ha, hal⟩ := path_all hmay (x := fr) (by omega) (by omega)
    obtain ⟨b, hb, hbl⟩ := path_all hmay (x := dn) (by omega) (by omega)
    have e : rRouteR N ws hn hl fr dn = (routeL ws hn hl a b, 0) := by
      simp only [rRouteR, hmay, if_true]; rw [if_neg (by omega), ha, hb]; rfl
    rw [e]
    exact rRoute_good N hn hl A m c ws fr dn a b w hr hm hmay (by omega) (by omega) (by omega) (by omega) ha hb hal hbl
end Go.Proofs.Ytadpenphiagdmaa
