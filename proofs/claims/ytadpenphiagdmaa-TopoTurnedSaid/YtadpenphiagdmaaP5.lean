/- Plain: the program's way is the reference's. -/
import Derived.Test.YtadpenphiagdmaaP4
namespace Go.Proofs.Ytadpenphiagdmaa
open Go.RowKit
set_option linter.unusedVariables false
set_option linter.unusedSimpArgs false

theorem pathF_same {ws : List Wire} {hn hl x : Int} {f g : Nat} {a b : List Int} (ha : pathF ws hn hl f x = some a) (hb : pathF ws hn hl g x = some b) : a = b := by
  rcases Nat.le_total f g with h | h
  · have := pathF_more ha h
    rw [hb] at this; injection this with this; exact this.symm
  · have := pathF_more hb h
    rw [ha] at this; injection this with this
theorem pathF_tail {ws : List Wire} {hn hl : Int} : ∀ {f : Nat} {x : Int} {a : List Int}, pathF ws hn hl f x = some a → ∀ {i : Nat} {y : Int}, a[i]? = some y → ∃ g, pathF ws hn hl g y = some (a.drop i)
  | 0, _, _, h, _, _, _ => by cases h
  | f + 1, x, a, h, 0, y, hy => by
    obtain ⟨r, rfl⟩ := pathF_head h
    simp at hy; subst hy
    exact ⟨f + 1, by simpa using h⟩
  | f + 1, x, a, h, i + 1, y, hy => by
    by_cases hx : x = hn
    · have := pathF_root h hx
      subst this; simp at hy
    · obtain ⟨g, r, hg, rfl, hr⟩ := pathF_up h hx
      have : g = f := by omega
      subst this
      rw [List.getElem?_cons_succ] at hy
      rw [List.drop_succ_cons]
      exact pathF_tail hr hy
theorem path_inj {ws : List Wire} {hn hl x : Int} {f : Nat} {a : List Int} (h : pathF ws hn hl f x = some a) {i j : Nat} {y : Int} (hi : a[i]? = some y) (hj : a[j]? = some y) : i = j := by
  obtain ⟨g1, h1⟩ := pathF_tail h hi
  obtain ⟨g2, h2⟩ := pathF_tail h hj
  have e := congrArg List.length (pathF_same h1 h2)
  rw [List.length_drop, List.length_drop] at e
  have l1 := (List.getElem?_eq_some_iff.1 hi).1
  have l2 := (List.getElem?_eq_some_iff.1 hj).1
  omega
theorem steps_snoc_get (l : List Int) (x y : Int) (hx : 0 ≤ x ∧ x < 8) (hy : 0 ≤ y) : (steps (l ++ [x])).getD y.toNat 0 = if x = y then (l.length : Int) + 1 else (steps l).getD y.toNat 0 := by
  split
  · rename_i e; subst e; exact steps_last l x (by omega)
  · rw [steps_snoc, List.getD_eq_getElem?_getD, List.getElem?_set_ne (by omega), List.getD_eq_getElem?_getD]
theorem steps_val (a : List Int) (hr : ∀ z ∈ a, 0 ≤ z ∧ z < 8) (hd : ∀ (i j : Nat) (y : Int), a[i]? = some y → a[j]? = some y → i = j) (y : Int) (hy : 0 ≤ y) : ∀ n, n ≤ a.length →
    (∀ i, i < n → a[i]? = some y → (steps (a.take n)).getD y.toNat 0 = (i : Int) + 1) ∧ (y ∉ a.take n → (steps (a.take n)).getD y.toNat 0 = 0)
  | 0, _ => ⟨fun i h => by omega, fun _ => by
      rw [List.take_zero, List.getD_eq_getElem?_getD]
      show ((List.replicate 8 (0 : Int))[y.toNat]?).getD 0 = 0
      rw [List.getElem?_replicate]; split <;> rfl⟩
  | n + 1, hn => by
    obtain ⟨ih1, ih2⟩ := steps_val a hr hd y hy n (by omega)
    obtain ⟨x, hx⟩ : ∃ x, a[n]? = some x := ⟨_, List.getElem?_eq_getElem (by omega)⟩
    have e : a.take (n + 1) = a.take n ++ [x] := by rw [List.take_add_one, hx]; rfl
    rw [e, steps_snoc_get _ x y (hr x (List.mem_of_getElem? hx)) hy]
    have hl : (a.take n).length = n := by rw [List.length_take]; omega
    refine ⟨fun i hi hiy => ?_, fun hm => ?_⟩
    · split
      · rename_i exy
        subst exy
        rw [hl, hd i n x hiy hx]
      · rename_i exy
        refine ih1 i ?_ hiy
        rcases Nat.lt_or_ge i n with h | h
        · exact h
        · obtain rfl : i = n := by omega
          rw [hx] at hiy; injection hiy with hiy; exact (exy hiy).elim
    · simp only [List.mem_append, List.mem_cons, List.not_mem_nil, or_false, not_or] at hm
      rw [if_neg (fun e => hm.2 e.symm)]
      exact ih2 hm.1
theorem strip_to (a b : List Int) (i j : Nat) (hs : a.drop i = b.drop j) (hne : ∀ i' j', i = i' + 1 → j = j' + 1 → ∃ x y, a[i']? = some x ∧ b[j']? = some y ∧ x ≠ y) : ∀ m, 1 ≤ m → i + m ≤ a.length → strip a b (i + m) (j + m) = (i + 1, j + 1)
  | 0, h, _ => by omega
  | 1, _, _ => by
    rcases i with _ | i
    · exact strip_a a b _
    · rcases j with _ | j
      · exact strip_b a b _
      · obtain ⟨x, y, hx, hy, hxy⟩ := hne i j rfl rfl
        exact strip_ne hx hy hxy
  | m + 2, _, hm => by
    have hx : a[i + m]? = some a[i + m] := List.getElem?_eq_getElem (by omega)
    have hy : b[j + m]? = a[i + m]? := by
      have h1 := List.getElem?_drop (xs := a) (i := i) (j := m)
      have h2 := List.getElem?_drop (xs := b) (i := j) (j := m)
      rw [← h2, ← hs, h1]
    rw [hx] at hy
    have e := strip_eq hx hy
    show strip a b ((i + m) + 2) ((j + m) + 2) = _
    rw [e]
    exact strip_to a b i j hs hne (m + 1) (by omega) (by omega)
theorem route_eq {ws : List Wire} {hn hl fr dn : Int} {f1 f2 : Nat} {a b : List Int} (ha : pathF ws hn hl f1 fr = some a) (hb : pathF ws hn hl f2 dn = some b)
    (hra : ∀ z ∈ a, 0 ≤ z ∧ z < 8) (hrb : ∀ z ∈ b, 0 ≤ z ∧ z < 8) {j i : Nat} {y : Int} (hj : b[j]? = some y) (hi : a[i]? = some y) (hbef : ∀ t z, t < j → b[t]? = some z → z ∉ a) :
    trouteL ws hn hl a b = routeL ws hn hl a b := by
  have hinj : ∀ (i j : Nat) (y : Int), a[i]? = some y → a[j]? = some y → i = j := fun i j y h1 h2 => path_inj ha h1 h2
  have hv : ∀ y, 0 ≤ y → (∀ i, i < a.length → a[i]? = some y → (steps a).getD y.toNat 0 = (i : Int) + 1) ∧ (y ∉ a → (steps a).getD y.toNat 0 = 0) := fun y hy => by
    have := steps_val a hra hinj y hy a.length (Nat.le_refl _)
    rwa [List.take_length] at this
  have hyr := hrb y (List.mem_of_getElem? hj)
  have hil := (List.getElem?_eq_some_iff.1 hi).1
  have hst := (hv y hyr.1).1 i hil hi
  have hmet : metAt a b = j := met_eq hj (by rw [hst]; omega) (fun t z ht hz => (hv z (hrb z (List.mem_of_getElem? hz)).1).2 (hbef t z ht hz))
  obtain ⟨g1, h1⟩ := pathF_tail ha hi
  obtain ⟨g2, h2⟩ := pathF_tail hb hj
  have hs := pathF_same h1 h2
  have hlen := congrArg List.length hs
  rw [List.length_drop, List.length_drop] at hlen
  have hjl := (List.getElem?_eq_some_iff.1 hj).1
  have hstrip := strip_to a b i j hs (fun i' j' e1 e2 => by
    have hi' : i' < a.length := by omega
    have hj' : j' < b.length := by omega
    refine ⟨a[i'], b[j'], List.getElem?_eq_getElem hi', List.getElem?_eq_getElem hj', fun e => ?_⟩
    exact hbef j' _ (by omega) (List.getElem?_eq_getElem hj') (by rw [← e]; exact List.getElem_mem hi')) (a.length - i) (by omega) (by omega)
  rw [show i + (a.length - i) = a.length from by omega, show j + (a.length - i) = b.length from by omega] at hstrip
  have e : b.getD j 0 = y := by rw [List.getD_eq_getElem?_getD, hj]; rfl
  rw [trouteL, routeL, hmet, hstrip, e, hst]
  simp
end Go.Proofs.Ytadpenphiagdmaa
