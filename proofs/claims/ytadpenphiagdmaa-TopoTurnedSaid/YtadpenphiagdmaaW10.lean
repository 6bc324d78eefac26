/- walks -/
import Derived.Test.YtadpenphiagdmaaW9
namespace Go.Proofs.Ytadpenphiagdmaa
open Go.RowKit
set_option linter.unusedVariables false
set_option linter.unusedSimpArgs false

/-- The common end of two lists is cut off, but for its last element: what is left of both. -/
def strip (a b : List Int) : Nat → Nat → Nat × Nat
  | na + 2, nb + 2 => if a[na]? = b[nb]? then strip a b (na + 1) (nb + 1) else (na + 2, nb + 2)
  | na, nb => (na, nb)
def downOf (ws : List Wire) (hn hl x : Int) : Pt := (peerL ws (upOf ws hn hl x).1 (upOf ws hn hl x).2).getD (0, 0)
def ups (ws : List Wire) (hn hl : Int) (a : List Int) : List Int := a.map fun x => (upOf ws hn hl x).2
def downs (ws : List Wire) (hn hl : Int) (b : List Int) : List Int := b.reverse.map fun x => (downOf ws hn hl x).2
def routeL (ws : List Wire) (hn hl : Int) (a b : List Int) : List Int :=
  ups ws hn hl (a.take ((strip a b a.length b.length).1 - 1)) ++ downs ws hn hl (b.take ((strip a b a.length b.length).2 - 1))
def rRouteR (N : Int) (ws : List Wire) (hn hl fr dn : Int) : List Int × Int :=
  if mayB N ws hn hl then (if fr < 0 ∨ N ≤ fr ∨ dn < 0 ∨ N ≤ dn then ([], 4) else (routeL ws hn hl ((pathF ws hn hl 9 fr).getD []) ((pathF ws hn hl 9 dn).getD []), 0)) else ([], 2)

theorem strip_eq {a b : List Int} {na nb : Nat} {x : Int} (ha : a[na]? = some x) (hb : b[nb]? = some x) : strip a b (na + 2) (nb + 2) = strip a b (na + 1) (nb + 1) := by
  rw [strip]; simp [ha, hb]
theorem strip_ne {a b : List Int} {na nb : Nat} {x y : Int} (ha : a[na]? = some x) (hb : b[nb]? = some y) (h : x ≠ y) : strip a b (na + 2) (nb + 2) = (na + 2, nb + 2) := by
  rw [strip]; simp [ha, hb, h]
theorem strip_a (a b : List Int) (nb : Nat) : strip a b 1 nb = (1, nb) := by rw [strip]; omega
theorem strip_b (a b : List Int) (na : Nat) : strip a b na 1 = (na, 1) := by rw [strip]; omega
theorem ups_snoc {ws : List Wire} {hn hl : Int} {a : List Int} {i : Nat} {x : Int} (h : a[i]? = some x) : ups ws hn hl (a.take (i + 1)) = ups ws hn hl (a.take i) ++ [(upOf ws hn hl x).2] := by
  obtain ⟨hi, rfl⟩ := List.getElem?_eq_some_iff.1 h
  rw [List.take_succ_eq_append_getElem hi]; simp only [ups, List.map_append]; rfl
theorem downs_cons {ws : List Wire} {hn hl : Int} {b : List Int} {i : Nat} {x : Int} (h : b[i]? = some x) : downs ws hn hl (b.take (i + 1)) = (downOf ws hn hl x).2 :: downs ws hn hl (b.take i) := by
  obtain ⟨hi, rfl⟩ := List.getElem?_eq_some_iff.1 h
  rw [List.take_succ_eq_append_getElem hi]; simp only [downs, List.reverse_append, List.map_append]; rfl

set_option maxRecDepth 100000 in
set_option maxHeartbeats 1000000 in
theorem rRoute_bad (N hn hl : Int) (A : Option Addr) (m c : Nat) (ws : List Wire) (fr dn : Int) (w : World) (hr : Reads w w.heap.size 4 A m (wcells ws)) (hm : m ≤ 1000000)
    (hbad : mayB N ws hn hl = false ∨ fr < 0 ∨ N ≤ fr ∨ dn < 0 ∨ N ≤ dn) :
    Calls Try.prog 16 #[.agg #[.int .i64 N, .slice A m c, .int .i64 hn, .int .i64 hl], .int .i64 fr, .int .i64 dn] w (RetSE (rRouteR N ws hn hl fr dn).1 (rRouteR N ws hn hl fr dn).2 w) := by
  obtain ⟨k1, k2⟩ := lay1 w #[.int .i64 N, .slice A m c, .int .i64 hn, .int .i64 hl] 26
  have hr0 := hr.up k1 (by simp <;> omega)
  have HO := Lib.hid (rMay N hn hl A m c ws (w.alloc (.cells #[.int .i64 N, .slice A m c, .int .i64 hn, .int .i64 hl] 26)) hr0 hm)
  cases hmay : mayB N ws hn hl
  · have e : rRouteR N ws hn hl fr dn = ([], 2) := by simp [rRouteR, hmay]
    rw [e]
    have Hmay := Lib.hid hmay; clear hmay e hbad
    go_enter Try.func16, Try.ntmps16
    go_wp2_with (
      go_at_call 19
      refine HO.out.mono ?_
      rintro e w1 ⟨rfl, hb1⟩
      rw [Hmay.out])
    go_ret2
    exact RetSE.nil (k1.call (by simp <;> omega) hb1)
  · have hb : fr < 0 ∨ N ≤ fr ∨ dn < 0 ∨ N ≤ dn := by simpa [hmay] using hbad
    have e : rRouteR N ws hn hl fr dn = ([], 4) := by simp [rRouteR, hmay, hb]
    rw [e]
    have Hmay := Lib.hid hmay; clear hmay e hbad
    by_cases h1 : fr < 0
    · clear hb
      go_enter Try.func16, Try.ntmps16
      go_wp2_with (
        go_at_call 19
        refine HO.out.mono ?_
        rintro e w1 ⟨rfl, hb1⟩
        rw [Hmay.out]
        have c00 := (k2.call hb1).cell 0
        simp at c00)
      all_goals first
        | (exfalso; omega)
        | (go_ret2; exact RetSE.nil (k1.call (by simp <;> omega) hb1))
    by_cases h2 : N ≤ fr
    · clear hb
      go_enter Try.func16, Try.ntmps16
      go_wp2_with (
        go_at_call 19
        refine HO.out.mono ?_
        rintro e w1 ⟨rfl, hb1⟩
        rw [Hmay.out]
        have c00 := (k2.call hb1).cell 0
        simp at c00)
      all_goals first
        | (exfalso; omega)
        | (go_ret2; exact RetSE.nil (k1.call (by simp <;> omega) hb1))
    by_cases h3 : dn < 0
    · clear hb
      go_enter Try.func16, Try.ntmps16
      go_wp2_with (
        go_at_call 19
        refine HO.out.mono ?_
        rintro e w1 ⟨rfl, hb1⟩
        rw [Hmay.out]
        have c00 := (k2.call hb1).cell 0
        simp at c00)
      all_goals first
        | (exfalso; omega)
        | (go_ret2; exact RetSE.nil (k1.call (by simp <;> omega) hb1))
    have h4 : N ≤ dn := by omega
    clear hb
    go_enter Try.func16, Try.ntmps16
    go_wp2_with (
      go_at_call 19
      refine HO.out.mono ?_
      rintro e w1 ⟨rfl, hb1⟩
      rw [Hmay.out]
      have c00 := (k2.call hb1).cell 0
      simp at c00)
    all_goals first
      | (exfalso; omega)
      | (go_ret2; exact RetSE.nil (k1.call (by simp <;> omega) hb1))
end Go.Proofs.Ytadpenphiagdmaa
