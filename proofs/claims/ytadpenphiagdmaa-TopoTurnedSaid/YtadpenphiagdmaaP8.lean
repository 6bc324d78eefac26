/- Plain: no wire shortens the ways up; each node but the root is the child of one node. -/
import Derived.Test.YtadpenphiagdmaaP7
namespace Go.Proofs.Ytadpenphiagdmaa
open Go.RowKit
set_option linter.unusedVariables false
set_option linter.unusedSimpArgs false

/-- The order's entries know their parents' places; all links of the first i entries have been looked at, and of entry i those below k. -/
structure Bfs (ws : List Wire) (l : List Pt) (i k : Nat) (π : Nat → Nat) : Prop where
  up : ∀ t p, 0 < t → l[t]? = some p → π t < t ∧ (π t < i ∨ (π t = i ∧ 0 < k)) ∧ ∃ p' d, l[π t]? = some p' ∧ peerL ws p.1 p.2 = some (p'.1, d)
  mono : ∀ s t, 0 < s → s ≤ t → t < l.length → π s ≤ π t
  seen : ∀ j m p q, (j < i ∨ (j = i ∧ m < k)) → m < 4 → l[j]? = some p → peerL ws p.1 (m : Nat) = some q → ∃ t p', l[t]? = some p' ∧ p'.1 = q.1 ∧ (t = 0 ∨ π t ≤ j)
theorem Bfs.step {ws : List Wire} {l : List Pt} {i k : Nat} {π : Nat → Nat} (hd : (portsOf ws).Nodup) (h : Bfs ws l i k π) (hk : k < 4) {p0 : Pt} (hp : l[i]? = some p0) : ∃ π', Bfs ws (ordStep ws p0.1 l k) i (k + 1) π' := by
  have hil := (List.getElem?_eq_some_iff.1 hp).1
  unfold ordStep
  split
  · rename_i q hq
    split
    · rename_i hall
      refine ⟨fun t => if t < l.length then π t else i, ?_, ?_, ?_⟩
      · intro t p ht hpt
        split
        · rename_i hlt
          rw [List.getElem?_append_left hlt] at hpt
          obtain ⟨h1, h2, p', d, h3, h4⟩ := h.up t p ht hpt
          refine ⟨h1, by omega, p', d, ?_, h4⟩
          rw [List.getElem?_append_left (List.getElem?_eq_some_iff.1 h3).1]; exact h3
        · rename_i hge
          have htl := (List.getElem?_eq_some_iff.1 hpt).1
          rw [List.length_append] at htl
          simp only [List.length_cons, List.length_nil] at htl
          obtain rfl : t = l.length := by omega
          rw [List.getElem?_append_right (Nat.le_refl _), Nat.sub_self] at hpt
          have : q = p := by simpa using hpt
          subst this
          exact ⟨by omega, by omega, p0, k, by rw [List.getElem?_append_left hil]; exact hp, peerL_sym hd hq⟩
      · intro s t hs hst ht
        have hmax : ∀ s, 0 < s → s < l.length → π s ≤ i := fun s h0 hs => by
          obtain ⟨_, h2, _⟩ := h.up s l[s] h0 (List.getElem?_eq_getElem hs); omega
        split
        · split
          · exact h.mono s t hs hst (by assumption)
          · exact hmax s hs (by assumption)
        · rw [if_neg (by omega)]; exact Nat.le_refl _
      · intro j m p r hjm hm hpj hr
        have hjl : j < l.length := by omega
        rw [List.getElem?_append_left hjl] at hpj
        by_cases hnew : j = i ∧ m = k
        · obtain ⟨rfl, rfl⟩ := hnew
          rw [hp] at hpj
          injection hpj with hpj
          subst hpj
          rw [hq] at hr
          injection hr with hr
          subst hr
          exact ⟨l.length, q, by rw [List.getElem?_append_right (Nat.le_refl _), Nat.sub_self]; rfl, rfl, .inr (by simp)⟩
        · obtain ⟨t, p', h1, h2, h3⟩ := h.seen j m p r (by omega) hm hpj hr
          have htl := (List.getElem?_eq_some_iff.1 h1).1
          exact ⟨t, p', by rw [List.getElem?_append_left htl]; exact h1, h2, by rw [if_pos htl]; exact h3⟩
    · rename_i hall
      refine ⟨π, fun t p ht hpt => ?_, h.mono, ?_⟩
      · obtain ⟨h1, h2, h3⟩ := h.up t p ht hpt
        exact ⟨h1, by omega, h3⟩
      · intro j m p r hjm hm hpj hr
        by_cases hnew : j = i ∧ m = k
        · obtain ⟨rfl, rfl⟩ := hnew
          rw [hp] at hpj
          injection hpj with hpj
          subst hpj
          rw [hq] at hr
          injection hr with hr
          subst hr
          have hex : ∃ p' ∈ l, p'.1 = q.1 := Classical.byContradiction fun hc => hall (List.all_eq_true.2 fun p' hp' => by
            simp only [bne_iff_ne, ne_eq]; exact fun e => hc ⟨p', hp', e⟩)
          obtain ⟨p', hp', he⟩ := hex
          obtain ⟨t, ht⟩ := List.mem_iff_getElem?.1 hp'
          refine ⟨t, p', ht, he, ?_⟩
          rcases Nat.eq_zero_or_pos t with h0 | h0
          · exact .inl h0
          · obtain ⟨_, h2, _⟩ := h.up t p' h0 ht
            exact .inr (by omega)
        · exact h.seen j m p r (by omega) hm hpj hr
  · rename_i hq
    refine ⟨π, fun t p ht hpt => ?_, h.mono, ?_⟩
    · obtain ⟨h1, h2, h3⟩ := h.up t p ht hpt
      exact ⟨h1, by omega, h3⟩
    · intro j m p r hjm hm hpj hr
      by_cases hnew : j = i ∧ m = k
      · obtain ⟨rfl, rfl⟩ := hnew
        rw [hp] at hpj
        injection hpj with hpj
        subst hpj
        rw [hq] at hr
        cases hr
      · exact h.seen j m p r (by omega) hm hpj hr
theorem Bfs.node {ws : List Wire} {l : List Pt} {i : Nat} {π : Nat → Nat} (hd : (portsOf ws).Nodup) (h : Bfs ws l i 0 π) {p0 : Pt} (hp : l[i]? = some p0) : ∃ π', Bfs ws (ordNode ws p0.1 l) (i + 1) 0 π' := by
  obtain ⟨π1, h1⟩ := h.step hd (by omega) hp
  have g1 := ordStep_get (ws := ws) (n := p0.1) (k := 0) hp
  obtain ⟨π2, h2⟩ := h1.step hd (by omega) g1
  have g2 := ordStep_get (ws := ws) (n := p0.1) (k := 1) g1
  obtain ⟨π3, h3⟩ := h2.step hd (by omega) g2
  have g3 := ordStep_get (ws := ws) (n := p0.1) (k := 2) g2
  obtain ⟨π4, h4⟩ := h3.step hd (by omega) g3
  refine ⟨π4, fun t p ht hpt => ?_, h4.mono, fun j m p r hjm hm hpj hr => h4.seen j m p r (by omega) hm hpj hr⟩
  obtain ⟨a, b, c⟩ := h4.up t p ht hpt
  exact ⟨a, by omega, c⟩
theorem ordL_bfs {ws : List Wire} (hd : (portsOf ws).Nodup) : ∀ (f : Nat) (l : List Pt) (i : Nat) (π : Nat → Nat), Bfs ws l i 0 π → i ≤ l.length → (ordL ws f l i).length < i + f → ∃ π', Bfs ws (ordL ws f l i) (ordL ws f l i).length 0 π'
  | 0, l, i, π, h, hi, hf => by simp only [ordL] at hf; omega
  | f + 1, l, i, π, h, hi, hf => by
    simp only [ordL] at hf ⊢
    split
    · rename_i p hp
      rw [hp] at hf
      dsimp only at hf
      obtain ⟨π', h'⟩ := h.node hd hp
      have hil := (List.getElem?_eq_some_iff.1 hp).1
      obtain ⟨r, hr⟩ : ∃ r, ordNode ws p.1 l = l ++ r := by
        obtain ⟨r0, e0⟩ := ordStep_ext ws p.1 l 0
        obtain ⟨r1, e1⟩ := ordStep_ext ws p.1 (ordStep ws p.1 l 0) 1
        obtain ⟨r2, e2⟩ := ordStep_ext ws p.1 (ordStep ws p.1 (ordStep ws p.1 l 0) 1) 2
        obtain ⟨r3, e3⟩ := ordStep_ext ws p.1 (ordStep ws p.1 (ordStep ws p.1 (ordStep ws p.1 l 0) 1) 2) 3
        refine ⟨r0 ++ r1 ++ r2 ++ r3, ?_⟩
        show ordStep ws p.1 (ordStep ws p.1 (ordStep ws p.1 (ordStep ws p.1 l 0) 1) 2) 3 = _
        rw [e3, e2, e1, e0]; simp
      exact ordL_bfs hd f _ _ _ h' (by rw [hr, List.length_append]; omega) (by omega)
    · rename_i hp
      have : i = l.length := by
        have := List.getElem?_eq_none_iff.1 hp; omega
      subst this
      exact ⟨π, h⟩
theorem order_bfs {N hn hl : Int} {ws : List Wire} (h : mayB N ws hn hl = true) : ∃ π, Bfs ws (orderOf ws hn hl) (orderOf ws hn hl).length 0 π := by
  obtain ⟨hok, hF, hlen⟩ := may_parts h
  have h8 := hF.short hok.n8
  refine ordL_bfs (may_nodup h) 9 [(hn, hl)] 0 (fun _ => 0) ⟨?_, ?_, ?_⟩ (by simp) (by rw [orderOf] at h8; omega)
  · intro t p ht hp
    have := (List.getElem?_eq_some_iff.1 hp).1
    simp at this; omega
  · intro s t hs hst ht
    exact Nat.le_refl _
  · intro j m p q hj
    omega
theorem peerL_wire {ws : List Wire} (hd : (portsOf ws).Nodup) {x : Wire} (hx : x ∈ ws) : peerL ws x.a x.b = some (x.c, x.d) := by
  induction ws with
  | nil => cases hx
  | cons y r ih =>
    have e : portsOf (y :: r) = (y.a, y.b) :: (y.c, y.d) :: portsOf r := rfl
    rw [e, List.nodup_cons, List.nodup_cons] at hd
    obtain ⟨h1, h2, h3⟩ := hd
    simp only [List.mem_cons, not_or] at h1
    rcases List.mem_cons.1 hx with rfl | hx
    · simp [peerL]
    · have hm : (x.a, x.b) ∈ portsOf r := List.mem_flatMap.2 ⟨x, hx, by simp⟩
      simp only [peerL]
      rw [if_neg, if_neg]
      · exact ih h3 hx
      · rintro ⟨e1, e2⟩; exact h2 (by rw [e1, e2]; exact hm)
      · rintro ⟨e1, e2⟩; exact h1.2 (by rw [e1, e2]; exact hm)
theorem may_links {N hn hl : Int} {ws : List Wire} (h : mayB N ws hn hl = true) : ∀ x ∈ ws, (0 ≤ x.a ∧ x.a < N ∧ 0 ≤ x.b ∧ x.b < 4) ∧ (0 ≤ x.c ∧ x.c < N ∧ 0 ≤ x.d ∧ x.d < 4) := by
  simp only [mayB, Bool.and_eq_true] at h
  have h2 := ((portsOk_iff N _).1 h.1.1.2).1
  intro x hx
  have ha := h2 (x.a, x.b) (List.mem_cons_of_mem _ (List.mem_flatMap.2 ⟨x, hx, by simp⟩))
  have hc := h2 (x.c, x.d) (List.mem_cons_of_mem _ (List.mem_flatMap.2 ⟨x, hx, by simp⟩))
  simp only [existsB, decide_eq_true_eq] at ha hc
  exact ⟨ha, hc⟩
/-- How many nodes lie on the way up. -/
def depL (ws : List Wire) (hn hl : Int) (x : Int) : Nat := ((pathF ws hn hl 9 x).getD []).length
theorem dep_wire {N hn hl : Int} {ws : List Wire} (h : mayB N ws hn hl = true) {u v : Int} {m : Nat} {d : Int} (hu : 0 ≤ u ∧ u < N) (hm : m < 4) (he : peerL ws u (m : Nat) = some (v, d)) : depL ws hn hl v ≤ depL ws hn hl u + 1 := by
  obtain ⟨hok, hF, hlen⟩ := may_parts h
  obtain ⟨π, hB⟩ := order_bfs h
  have hN := hok.n1
  obtain ⟨L, hL⟩ : ∃ L, orderOf ws hn hl = L := ⟨_, rfl⟩
  have hhead : L[0]? = some (hn, hl) := by
    obtain ⟨r, hr⟩ := ordL_ext (ws := ws) 9 [(hn, hl)] 0
    rw [← hL, orderOf, hr]; rfl
  have hup : ∀ p ∈ L, upOf ws hn hl p.1 = p := fun p hp => by rw [upOf, hL, find_unique (by rw [← hL]; exact hF.nd) hp]; rfl
  have hrg : ∀ p ∈ L, 0 ≤ p.1 ∧ p.1 < N := by rw [← hL]; exact hF.rg
  have hnd : (L.map (·.1)).Nodup := by rw [← hL]; exact hF.nd
  have hlenL : (L.length : Int) = N := by rw [← hL]; exact hlen
  rw [hL] at hB
  have hidx : ∀ {s t : Nat} {p q : Pt}, L[s]? = some p → L[t]? = some q → p.1 = q.1 → s = t := fun {s t p q} hs ht e => by
    have h1 : (L.map (·.1))[s]? = some p.1 := by rw [List.getElem?_map, hs]; rfl
    have h2 : (L.map (·.1))[t]? = some p.1 := by rw [List.getElem?_map, ht, e]; rfl
    obtain ⟨l1, e1⟩ := List.getElem?_eq_some_iff.1 h1
    obtain ⟨l2, e2⟩ := List.getElem?_eq_some_iff.1 h2
    have hpw := List.pairwise_iff_getElem.1 hnd
    rcases Nat.lt_trichotomy s t with h | h | h
    · exact (hpw s t l1 l2 h (by rw [e1, e2])).elim
    · exact h
    · exact (hpw t s l2 l1 h (by rw [e1, e2])).elim
  have hd0 : ∀ p, L[0]? = some p → depL ws hn hl p.1 = 1 := fun p hp => by
    rw [hhead] at hp; injection hp with hp; subst hp
    simp [depL, pathF]
  have hdt : ∀ t p p', 0 < t → L[t]? = some p → L[π t]? = some p' → depL ws hn hl p.1 = depL ws hn hl p'.1 + 1 := fun t p p' ht hp hp' => by
    obtain ⟨h1, _, p'', d', h3, h4⟩ := hB.up t p ht hp
    rw [hp'] at h3
    injection h3 with h3
    subst h3
    have hne : p.1 ≠ hn := fun e => by
      have := hidx hp hhead e
      omega
    have hr := hrg p (List.mem_of_getElem? hp)
    have hr' := hrg p' (List.mem_of_getElem? hp')
    obtain ⟨a, ha, hal⟩ := path_all h hr.1 hr.2
    obtain ⟨a', ha', hal'⟩ := path_all h hr'.1 hr'.2
    have hpar : parentOf ws hn hl p.1 = p'.1 := by rw [parentOf, hup p (List.mem_of_getElem? hp), h4]; rfl
    obtain ⟨g, r, hg, rfl, hr2⟩ := pathF_up ha hne
    rw [hpar] at hr2
    have := pathF_same hr2 ha'
    subst this
    simp [depL, ha, ha']
  have hmono : ∀ (n s t : Nat) p q, t < n → s ≤ t → L[s]? = some p → L[t]? = some q → depL ws hn hl p.1 ≤ depL ws hn hl q.1 := by
    intro n
    induction n with
    | zero => intro s t p q h; omega
    | succ n ih =>
      intro s t p q htn hst hs ht
      rcases Nat.eq_zero_or_pos s with h0 | h0
      · subst h0
        rw [hd0 p hs]
        have hr := hrg q (List.mem_of_getElem? ht)
        obtain ⟨a, ha, _⟩ := path_all h hr.1 hr.2
        have := pathF_pos ha
        rw [depL, ha]; exact this
      · have htl := (List.getElem?_eq_some_iff.1 ht).1
        obtain ⟨h1, _, p', d1, h3, _⟩ := hB.up s p h0 hs
        obtain ⟨h1', _, q', d2, h3', _⟩ := hB.up t q (by omega) ht
        rw [hdt s p p' h0 hs h3, hdt t q q' (by omega) ht h3']
        have := ih (π s) (π t) p' q' (by omega) (hB.mono s t h0 hst htl) h3 h3'
        omega
  have hx : u ∈ L.map (·.1) := nodup_all N.toNat _ hnd (fun y hy => by
    obtain ⟨p, hp, rfl⟩ := List.mem_map.1 hy
    have := hrg p hp
    omega) (by rw [List.length_map]; omega) u hu.1 (by omega)
  obtain ⟨p, hp, rfl⟩ := List.mem_map.1 hx
  obtain ⟨i, hi⟩ := List.mem_iff_getElem?.1 hp
  have hil := (List.getElem?_eq_some_iff.1 hi).1
  obtain ⟨t, p', ht, he', h3⟩ := hB.seen i m p (v, d) (.inl hil) hm hi he
  dsimp only at he'
  subst he'
  rcases h3 with rfl | h3
  · rw [hd0 p' ht]; omega
  · rcases Nat.eq_zero_or_pos t with h0 | h0
    · subst h0; rw [hd0 p' ht]; omega
    · obtain ⟨h1, _, q', d2, h4, _⟩ := hB.up t p' h0 ht
      rw [hdt t p' q' h0 ht h4]
      have := hmono (i + 1) (π t) i q' p (by omega) h3 h4 hi
      omega
theorem route_dep {N hn hl fr : Int} {ws : List Wire} (hmay : mayB N ws hn hl = true) (hfr : 0 ≤ fr ∧ fr < N) : (rRouteR N ws hn hl fr hn).2 = 0 ∧ (rRouteR N ws hn hl fr hn).1.length + 1 = depL ws hn hl fr := by
  obtain ⟨a, ha, hal⟩ := path_all hmay hfr.1 hfr.2
  have hok := mayB_net hmay
  have hh0 := hok.h0
  have hh1 := hok.h1
  have hb : pathF ws hn hl 9 hn = some [hn] := by simp [pathF]
  obtain ⟨i, hi⟩ := List.mem_iff_getElem?.1 (path_last ha)
  have hil := (List.getElem?_eq_some_iff.1 hi).1
  have hst := meet_strip ha hb (j := 0) (i := i) (y := hn) rfl hi (fun t z ht => by omega)
  have e1 : rRouteR N ws hn hl fr hn = (ups ws hn hl (a.take i), 0) := by
    simp only [rRouteR, hmay, if_true]; rw [if_neg (by omega), ha, hb]
    show (routeL ws hn hl a [hn], (0 : Int)) = _
    rw [routeL, hst]; simp [downs]
  have hend : i + 1 = a.length := by
    rcases Nat.lt_or_ge (i + 1) a.length with h | h
    · exact ((path_step ha hi (List.getElem?_eq_getElem h)).1 rfl).elim
    · omega
  rw [e1]
  refine ⟨rfl, ?_⟩
  rw [depL, ha]
  simp only [ups, List.length_map, List.length_take, Option.getD_some]
  omega
end Go.Proofs.Ytadpenphiagdmaa
