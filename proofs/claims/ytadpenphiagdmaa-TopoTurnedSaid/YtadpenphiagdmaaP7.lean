/- Plain: following a route leads over the two ways to the root. -/
import Derived.Test.YtadpenphiagdmaaP6
namespace Go.Proofs.Ytadpenphiagdmaa
open Go.RowKit
set_option linter.unusedVariables false
set_option linter.unusedSimpArgs false

theorem up_peer {N hn hl : Int} {ws : List Wire} (h : mayB N ws hn hl = true) {x : Int} (h0 : 0 ≤ x) (h1 : x < N) (hx : x ≠ hn) :
    ∃ d, peerL ws x (upOf ws hn hl x).2 = some (parentOf ws hn hl x, d) := by
  have hpar : Par ws hn (orderOf ws hn hl) := ordL_par (may_nodup h) _ _ _ (fun k p hk => by
    cases k with
    | zero => simp at hk; subst hk; exact .inl ⟨rfl, rfl⟩
    | succ k => simp at hk)
  obtain ⟨hok, hF, hlen⟩ := may_parts h
  have hN := hok.n1
  have hm : x ∈ (orderOf ws hn hl).map (·.1) := nodup_all N.toNat _ hF.nd (fun y hy => by
    obtain ⟨p, hp, rfl⟩ := List.mem_map.1 hy
    have := hF.rg p hp
    omega) (by rw [List.length_map]; omega) x h0 (by omega)
  obtain ⟨p, hp, rfl⟩ := List.mem_map.1 hm
  obtain ⟨k, hk⟩ := List.mem_iff_getElem?.1 hp
  rcases hpar k p hk with ⟨_, h2⟩ | ⟨j, p', d, hj, hpj, hpe⟩
  · exact (hx h2).elim
  · have hup : upOf ws hn hl p.1 = p := by rw [upOf, find_unique hF.nd hp]; rfl
    have hpa : parentOf ws hn hl p.1 = p'.1 := by rw [parentOf, hup, hpe]; rfl
    exact ⟨d, by rw [hup, hpe, hpa]⟩
/-- The n-th node of a way up is the parent of the one ahead of it. -/
theorem path_step {ws : List Wire} {hn hl : Int} : ∀ {f : Nat} {x : Int} {a : List Int}, pathF ws hn hl f x = some a → ∀ {k : Nat} {y z : Int}, a[k]? = some y → a[k + 1]? = some z → y ≠ hn ∧ z = parentOf ws hn hl y
  | 0, _, _, h, _, _, _, _, _ => by cases h
  | f + 1, x, a, h, k, y, z, hy, hz => by
    by_cases hx : x = hn
    · have := pathF_root h hx
      subst this; simp at hz
    · obtain ⟨g, r, hg, rfl, hr⟩ := pathF_up h hx
      have : g = f := by omega
      subst this
      cases k with
      | zero =>
        simp at hy; subst hy
        obtain ⟨r', rfl⟩ : ∃ r', r = parentOf ws hn hl x :: r' := by
          cases g with
          | zero => cases hr
          | succ g => exact pathF_head hr
        simp at hz
        exact ⟨hx, hz.symm⟩
      | succ k =>
        rw [List.getElem?_cons_succ] at hy hz
        exact path_step hr hy hz

/-- The nodes on a route: up the first way as far as its i-th node, down the other one from its j-th. -/
def wayOf (a b : List Int) (i j : Nat) : List Int := a.take (i + 1) ++ (b.take j).reverse
theorem wayOf_get {a b : List Int} {i j : Nat} {y : Int} (hi : a[i]? = some y) (hj : b[j]? = some y) (k : Nat) : (wayOf a b i j)[k]? = if k ≤ i then a[k]? else if k ≤ i + j then b[i + j - k]? else none := by
  have hil := (List.getElem?_eq_some_iff.1 hi).1
  have hjl := (List.getElem?_eq_some_iff.1 hj).1
  have hl : (a.take (i + 1)).length = i + 1 := by rw [List.length_take]; omega
  have hl2 : (b.take j).length = j := by rw [List.length_take]; omega
  rw [wayOf]
  split
  · rw [List.getElem?_append_left (by omega), List.getElem?_take, if_pos (by omega)]
  · rw [List.getElem?_append_right (by omega), hl]
    split
    · rw [List.getElem?_reverse (by omega), hl2, List.getElem?_take, if_pos (by omega)]
      congr 1; omega
    · rw [List.getElem?_eq_none]; rw [List.length_reverse]; omega
theorem wayOf_len {a b : List Int} {i j : Nat} {y : Int} (hi : a[i]? = some y) (hj : b[j]? = some y) : (wayOf a b i j).length = i + j + 1 := by
  have hil := (List.getElem?_eq_some_iff.1 hi).1
  have hjl := (List.getElem?_eq_some_iff.1 hj).1
  rw [wayOf, List.length_append, List.length_reverse, List.length_take, List.length_take]; omega
theorem wayOf_rev {a b : List Int} {i j : Nat} {y : Int} (hi : a[i]? = some y) (hj : b[j]? = some y) : wayOf b a j i = (wayOf a b i j).reverse := by
  have e1 : a.take (i + 1) = a.take i ++ [y] := by rw [List.take_add_one, hi]; rfl
  have e2 : b.take (j + 1) = b.take j ++ [y] := by rw [List.take_add_one, hj]; rfl
  rw [wayOf, wayOf, e1, e2]
  simp
/-- From each node of the way its link leads to the next one. -/
def WayOk (peer : Int → Int → Option Pt) (x : Int) (l way : List Int) : Prop :=
  way.length = l.length + 1 ∧ way[0]? = some x ∧ ∀ k y m, way[k]? = some y → l[k]? = some m → ∃ z d, peer y m = some (z, d) ∧ way[k + 1]? = some z
theorem meet_strip {ws : List Wire} {hn hl fr dn : Int} {f1 f2 : Nat} {a b : List Int} (ha : pathF ws hn hl f1 fr = some a) (hb : pathF ws hn hl f2 dn = some b)
    {j i : Nat} {y : Int} (hj : b[j]? = some y) (hi : a[i]? = some y) (hbef : ∀ t z, t < j → b[t]? = some z → z ∉ a) : strip a b a.length b.length = (i + 1, j + 1) := by
  have hil := (List.getElem?_eq_some_iff.1 hi).1
  obtain ⟨g1, h1⟩ := pathF_tail ha hi
  obtain ⟨g2, h2⟩ := pathF_tail hb hj
  have hs := pathF_same h1 h2
  have hlen := congrArg List.length hs
  rw [List.length_drop, List.length_drop] at hlen
  have hjl := (List.getElem?_eq_some_iff.1 hj).1
  have hstrip := strip_to a b i j hs (fun i' j' e1 e2 => by
    have hi' : i' < a.length := by omega
    have hj' : j' < b.length := by omega
    refine ⟨a[i'], b[j'], List.getElem?_eq_getElem hi', List.getElem?_eq_getElem hj', fun e => ?_⟩
    exact hbef j' _ (by omega) (List.getElem?_eq_getElem hj') (by rw [← e]; exact List.getElem_mem hi')) (a.length - i) (by omega) (by omega)
  rwa [show i + (a.length - i) = a.length from by omega, show j + (a.length - i) = b.length from by omega] at hstrip
theorem meet_back {ws : List Wire} {hn hl fr dn : Int} {f1 f2 : Nat} {a b : List Int} (ha : pathF ws hn hl f1 fr = some a) (hb : pathF ws hn hl f2 dn = some b)
    {j i : Nat} {y : Int} (hj : b[j]? = some y) (hi : a[i]? = some y) (hbef : ∀ t z, t < j → b[t]? = some z → z ∉ a) : ∀ t z, t < i → a[t]? = some z → z ∉ b := by
  intro t z ht hz hm
  obtain ⟨s, hs⟩ := List.mem_iff_getElem?.1 hm
  rcases Nat.lt_or_ge s j with h | h
  · exact hbef s z h hs (List.mem_of_getElem? hz)
  · obtain ⟨g1, h1⟩ := pathF_tail ha hi
    obtain ⟨g2, h2⟩ := pathF_tail hb hj
    have hs' := pathF_same h1 h2
    have e1 := List.getElem?_drop (xs := a) (i := i) (j := s - j)
    have e2 := List.getElem?_drop (xs := b) (i := j) (j := s - j)
    rw [show j + (s - j) = s from by omega, hs, ← hs', e1] at e2
    have := path_inj ha hz e2
    omega
theorem routeL_get {ws : List Wire} {hn hl : Int} {a b : List Int} {i j : Nat} (hst : strip a b a.length b.length = (i + 1, j + 1)) (hil : i < a.length) (hjl : j < b.length) :
    (routeL ws hn hl a b).length = i + j ∧ ∀ k m, (routeL ws hn hl a b)[k]? = some m → (k < i ∧ ∃ y, a[k]? = some y ∧ m = (upOf ws hn hl y).2) ∨ (i ≤ k ∧ k < i + j ∧ ∃ z, b[i + j - 1 - k]? = some z ∧ m = (downOf ws hn hl z).2) := by
  have hl1 : (ups ws hn hl (a.take i)).length = i := by rw [ups, List.length_map, List.length_take]; omega
  have hl2 : (b.take j).length = j := by rw [List.length_take]; omega
  have e : routeL ws hn hl a b = ups ws hn hl (a.take i) ++ downs ws hn hl (b.take j) := by rw [routeL, hst]; simp
  have hlen : (routeL ws hn hl a b).length = i + j := by rw [e, List.length_append, hl1, downs, List.length_map, List.length_reverse, hl2]
  refine ⟨hlen, fun k m hk => ?_⟩
  have hkl := (List.getElem?_eq_some_iff.1 hk).1
  rw [e] at hk
  rcases Nat.lt_or_ge k i with h | h
  · rw [List.getElem?_append_left (by omega), ups, List.getElem?_map, List.getElem?_take, if_pos h] at hk
    obtain ⟨y, hy, rfl⟩ := Option.map_eq_some_iff.1 hk
    exact .inl ⟨h, y, hy, rfl⟩
  · rw [List.getElem?_append_right (by omega), hl1, downs, List.getElem?_map, List.getElem?_reverse (by omega), hl2, List.getElem?_take, if_pos (by omega)] at hk
    obtain ⟨z, hz, rfl⟩ := Option.map_eq_some_iff.1 hk
    exact .inr ⟨h, by omega, z, by rw [← hz]; congr 1; omega, rfl⟩
theorem way_ok {N hn hl fr dn : Int} {ws : List Wire} (hmay : mayB N ws hn hl = true) {f1 f2 : Nat} {a b : List Int} (ha : pathF ws hn hl f1 fr = some a) (hb : pathF ws hn hl f2 dn = some b)
    (hra : ∀ z ∈ a, 0 ≤ z ∧ z < N) (hrb : ∀ z ∈ b, 0 ≤ z ∧ z < N) {j i : Nat} {y : Int} (hj : b[j]? = some y) (hi : a[i]? = some y) (hbef : ∀ t z, t < j → b[t]? = some z → z ∉ a) :
    WayOk (rpeerOf N ws hn hl) fr (routeL ws hn hl a b) (wayOf a b i j) := by
  have hil := (List.getElem?_eq_some_iff.1 hi).1
  have hjl := (List.getElem?_eq_some_iff.1 hj).1
  obtain ⟨h1, h2⟩ := routeL_get (ws := ws) (hn := hn) (hl := hl) (meet_strip ha hb hj hi hbef) hil hjl
  refine ⟨by rw [wayOf_len hi hj, h1], ?_, fun k x m hk hm => ?_⟩
  · rw [wayOf_get hi hj, if_pos (by omega)]
    cases f1 with
    | zero => cases ha
    | succ f =>
      obtain ⟨r, rfl⟩ := pathF_head ha
      rfl
  · simp only [rpeerOf, hmay, if_true]
    rw [wayOf_get hi hj] at hk ⊢
    rcases h2 k m hm with ⟨hki, x', hx', rfl⟩ | ⟨hki, hkj, z, hz, rfl⟩
    · rw [if_pos (by omega), hx'] at hk
      injection hk with hk
      subst hk
      rw [if_pos (by omega)]
      obtain ⟨z, hz⟩ : ∃ z, a[k + 1]? = some z := ⟨_, List.getElem?_eq_getElem (by omega)⟩
      obtain ⟨hne, rfl⟩ := path_step ha hx' hz
      have hr := hra x' (List.mem_of_getElem? hx')
      obtain ⟨d, hd⟩ := up_peer hmay hr.1 hr.2 hne
      exact ⟨_, d, hd, hz⟩
    · have hx' : b[i + j - k]? = some x := by
        split at hk
        · have : k = i := by omega
          subst this
          rw [hi] at hk
          rw [show k + j - k = j from by omega, hj]; exact hk
        · rw [if_pos (by omega)] at hk; exact hk
      have hz' : b[(i + j - 1 - k) + 1]? = some x := by rw [show i + j - 1 - k + 1 = i + j - k from by omega]; exact hx'
      obtain ⟨hne, rfl⟩ := path_step hb hz hz'
      have hr := hrb z (List.mem_of_getElem? hz)
      obtain ⟨d, hd⟩ := up_peer hmay hr.1 hr.2 hne
      have hup := up_tints hmay z hr.1 hr.2
      have hdn : downOf ws hn hl z = (parentOf ws hn hl z, d) := by
        rw [downOf, show (upOf ws hn hl z).1 = z from by rw [hup], hd]; rfl
      have hsy := peerL_sym (may_nodup hmay) hd
      refine ⟨z, (upOf ws hn hl z).2, by rw [hdn]; exact hsy, ?_⟩
      rw [if_neg (by omega), if_pos (by omega), ← hz]
      congr 1; omega
theorem route_facts {N hn hl fr dn : Int} {ws : List Wire} (hmay : mayB N ws hn hl = true) (hfr : 0 ≤ fr ∧ fr < N) (hdn : 0 ≤ dn ∧ dn < N) : ∃ way : List Int,
    (rRouteR N ws hn hl fr dn).2 = 0 ∧ (rRouteR N ws hn hl dn fr).2 = 0 ∧
    WayOk (rpeerOf N ws hn hl) fr (rRouteR N ws hn hl fr dn).1 way ∧ WayOk (rpeerOf N ws hn hl) dn (rRouteR N ws hn hl dn fr).1 way.reverse ∧
    ∀ (p q : Nat) (z : Int), way[p]? = some z → way[q]? = some z → p = q := by
  obtain ⟨a, ha, hal⟩ := path_all hmay hfr.1 hfr.2
  obtain ⟨b, hb, hbl⟩ := path_all hmay hdn.1 hdn.2
  have hok := mayB_net hmay
  have hra := path_range hok ha hfr.1 hfr.2
  have hrb := path_range hok hb hdn.1 hdn.2
  obtain ⟨j, y, hj, hya, hbef⟩ := first_met a b hn (path_last hb) (path_last ha)
  obtain ⟨i, hi⟩ := List.mem_iff_getElem?.1 hya
  have e1 : rRouteR N ws hn hl fr dn = (routeL ws hn hl a b, 0) := by
    simp only [rRouteR, hmay, if_true]; rw [if_neg (by omega), ha, hb]; rfl
  have e2 : rRouteR N ws hn hl dn fr = (routeL ws hn hl b a, 0) := by
    simp only [rRouteR, hmay, if_true]; rw [if_neg (by omega), ha, hb]; rfl
  have hback := meet_back ha hb hj hi hbef
  refine ⟨wayOf a b i j, by rw [e1], by rw [e2], by rw [e1]; exact way_ok hmay ha hb hra hrb hj hi hbef, ?_, ?_⟩
  · rw [e2, ← wayOf_rev hi hj]
    exact way_ok hmay hb ha hrb hra hi hj hback
  · intro p q z hp hq
    rw [wayOf_get hi hj] at hp hq
    split at hp
    · split at hq
      · exact path_inj ha hp hq
      · split at hq
        · exact (hbef _ z (by omega) hq (List.mem_of_getElem? hp)).elim
        · cases hq
    · split at hp
      · split at hq
        · exact (hbef _ z (by omega) hp (List.mem_of_getElem? hq)).elim
        · split at hq
          · have := path_inj hb hp hq
            omega
          · cases hq
      · cases hp
/-- The root's own entry is the host's port. -/
theorem up_root {N hn hl : Int} {ws : List Wire} (h : mayB N ws hn hl = true) : upOf ws hn hl hn = (hn, hl) := by
  have hg : (orderOf ws hn hl)[0]? = some (hn, hl) := by
    obtain ⟨r, hr⟩ := ordL_ext (ws := ws) 9 [(hn, hl)] 0
    rw [orderOf, hr]; rfl
  have hm := List.mem_of_getElem? hg
  obtain ⟨hok, hF, hlen⟩ := may_parts h
  have := find_unique hF.nd hm
  rw [upOf, this]; rfl
theorem route_root {N hn hl fr : Int} {ws : List Wire} (hmay : mayB N ws hn hl = true) (hfr : 0 ≤ fr ∧ fr < N) :
    (rRouteR N ws hn hl fr hn).2 = 0 ∧ ((fr = hn ∧ (rRouteR N ws hn hl fr hn).1 = []) ∨ (fr ≠ hn ∧ ∃ r, (rRouteR N ws hn hl fr hn).1 = (upOf ws hn hl fr).2 :: r)) := by
  obtain ⟨a, ha, hal⟩ := path_all hmay hfr.1 hfr.2
  have hok := mayB_net hmay
  have hh0 := hok.h0
  have hh1 := hok.h1
  have hb : pathF ws hn hl 9 hn = some [hn] := by simp [pathF]
  obtain ⟨i, hi⟩ := List.mem_iff_getElem?.1 (path_last ha)
  have hst := meet_strip ha hb (j := 0) (i := i) (y := hn) rfl hi (fun t z ht => by omega)
  have e1 : rRouteR N ws hn hl fr hn = (ups ws hn hl (a.take i), 0) := by
    simp only [rRouteR, hmay, if_true]; rw [if_neg (by omega), ha, hb]
    show (routeL ws hn hl a [hn], (0 : Int)) = _
    rw [routeL, hst]; simp [downs]
  rw [e1]
  refine ⟨rfl, ?_⟩
  obtain ⟨r, rfl⟩ := pathF_head ha
  by_cases hx : fr = hn
  · refine .inl ⟨hx, ?_⟩
    have : i = 0 := path_inj ha hi (by rw [hx]; rfl)
    subst this
    rfl
  · refine .inr ⟨hx, ?_⟩
    cases i with
    | zero => simp at hi; exact (hx hi).elim
    | succ i => exact ⟨ups ws hn hl (r.take i), by simp [ups]⟩
end Go.Proofs.Ytadpenphiagdmaa
