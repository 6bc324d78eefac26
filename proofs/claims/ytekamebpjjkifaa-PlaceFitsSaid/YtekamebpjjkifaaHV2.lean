/- Placings that are made fit; if none can be made, no others do: in plain words. -/
import Derived.Test.YtekamebpjjkifaaHK45
namespace Go.Proofs.Ytekamebpjjkifaa
open Go.RowKit
set_option linter.unusedSimpArgs false
set_option linter.unusedVariables false

/-- A channel as Between gives it. -/
def kindT (x : Int × Int × Int) : Prop := (x.1 = 0 ∧ x.2.1 = -1 ∧ 0 ≤ x.2.2) ∨ (x.1 = 1 ∧ x.2.2 = -1 ∧ 0 ≤ x.2.1) ∨ (2 ≤ x.1 ∧ 0 ≤ x.2.1 ∧ 0 ≤ x.2.2)
theorem rowC_kind {o o' : Option Nat} {c : Nat} : ∀ x ∈ rowC o o' c, x.1 = c ∧ kindT x := by
  intro x hx
  unfold rowC at hx
  split at hx
  · rename_i h0
    cases o' with
    | none => cases hx
    | some i =>
      obtain rfl := List.mem_singleton.1 hx
      exact ⟨by simp [h0], .inl ⟨rfl, rfl, by simp⟩⟩
  · split at hx
    · rename_i h1
      cases o with
      | none => cases hx
      | some i =>
        obtain rfl := List.mem_singleton.1 hx
        exact ⟨by simp [h1], .inr (.inl ⟨rfl, rfl, by simp⟩)⟩
    · cases o with
      | none => cases hx
      | some i =>
        cases o' with
        | none => cases hx
        | some j =>
          simp only at hx
          split at hx
          · obtain rfl := List.mem_singleton.1 hx
            exact ⟨rfl, .inr (.inr ⟨by simp only; omega, by simp, by simp⟩)⟩
          · cases hx
theorem rowC_pair (a b : Option Nat) (c : Nat) : (rowC a b c).Pairwise (fun x y : Int × Int × Int => x.1 < y.1) := by
  have h := rowC_len a b c
  generalize rowC a b c = l at h
  match l, h with
  | [], _ => exact List.Pairwise.nil
  | [x], _ => simp
  | x :: y :: r, h => simp at h
theorem betweenN_kind {bs : List KP} : ∀ {n : Nat} {l : List (Int × Int × Int)}, betweenN bs n = some l → (∀ x ∈ l, x.1 < n ∧ kindT x) ∧ l.Pairwise (fun x y : Int × Int × Int => x.1 < y.1)
  | 0, l, h => by rw [betweenN] at h; cases h; exact ⟨by simp, List.Pairwise.nil⟩
  | n + 1, l, h => by
    rw [betweenN] at h
    cases h1 : betweenN bs n with
    | none => rw [h1] at h; cases h
    | some a =>
      rw [h1] at h
      cases h2 : betweenC bs n with
      | none => rw [h2] at h; cases h
      | some b =>
        rw [h2] at h
        cases h
        obtain ⟨h3, h4⟩ := betweenN_kind h1
        have hb : ∃ o o', b = rowC o o' n := by
          by_cases hc1 : 2 ≤ (usersL ((n : Int), true) 0 bs).length
          · rw [betweenC_clash hc1] at h2; cases h2
          · by_cases hc2 : 2 ≤ (usersL ((n : Int), false) 0 bs).length
            · rw [betweenC_clash hc2] at h2; cases h2
            · rw [betweenC_un (by omega) (by omega)] at h2
              cases h2
              exact ⟨_, _, rfl⟩
        obtain ⟨o, o', rfl⟩ := hb
        refine ⟨fun x hx => ?_, List.pairwise_append.2 ⟨h4, rowC_pair _ _ _, fun x hx y hy => ?_⟩⟩
        · rcases List.mem_append.1 hx with hx | hx
          · exact ⟨by have := (h3 x hx).1; omega, (h3 x hx).2⟩
          · have := rowC_kind x hx
            exact ⟨by rw [this.1]; omega, this.2⟩
        · have h5 := (h3 x hx).1
          have h6 := (rowC_kind y hy).1
          rw [h6]
          exact h5
/-- What is known of the channels of a kernel. -/
structure ChanF (bl : List (Int × Int × Int)) : Prop where
  kind : ∀ x ∈ bl, kindT x
  up : bl.Pairwise (fun x y : Int × Int × Int => x.1 < y.1)
theorem ChanF.lt {bl : List (Int × Int × Int)} (h : ChanF bl) {i j : Nat} {x y : Int × Int × Int} (hx : bl[i]? = some x) (hy : bl[j]? = some y) (hij : i < j) : x.1 < y.1 := by
  obtain ⟨hi, rfl⟩ := List.getElem?_eq_some_iff.1 hx
  obtain ⟨hj, rfl⟩ := List.getElem?_eq_some_iff.1 hy
  exact List.pairwise_iff_getElem.1 h.up i j hi hj hij
theorem chanF {k : KK} (h0 : (betweenQ k).1 = 0) : ChanF (betweenQ k).2 := by
  unfold betweenQ at h0 ⊢
  by_cases h : mayK k = true
  · rw [if_pos h] at h0 ⊢
    cases hb : betweenK k with
    | none => rw [hb] at h0; cases h0
    | some l => exact ⟨fun x hx => ((betweenN_kind hb).1 x hx).2, (betweenN_kind hb).2⟩
  · rw [if_neg h] at h0
    cases h0
theorem makeN_at {k : KK} {t : TN} {l : List (Int × Int × Int)} : ∀ {n : Nat} {d : List Plc}, makeN k t l n = some d → ∀ j, j < n → ∃ x y, l[j]? = some x ∧ d[j]? = some y ∧ pickP k t (tkOf (d.take j)) x = some y
  | 0, d, h => fun j hj => absurd hj (by omega)
  | n + 1, d, h => by
    rw [makeN] at h
    cases h1 : makeN k t l n with
    | none => rw [h1] at h; cases h
    | some a =>
      rw [h1] at h
      cases h2 : l[n]? with
      | none => rw [h2] at h; cases h
      | some x =>
        rw [h2] at h
        cases h3 : pickP k t (tkOf a) x with
        | none => simp only [h3] at h; cases h
        | some y =>
          simp only [h3] at h
          cases h
          have hl := makeN_len h1
          intro j hj
          rcases Nat.lt_or_eq_of_le (Nat.le_of_lt_succ hj) with hlt | rfl
          · obtain ⟨x', y', e1, e2, e3⟩ := makeN_at h1 j hlt
            exact ⟨x', y', e1, by rw [List.getElem?_append_left (by omega)]; exact e2, by rw [List.take_append_of_le_length (by omega)]; exact e3⟩
          · exact ⟨x, y, h2, by rw [List.getElem?_append_right (by omega), hl]; simp, by rw [List.take_append_of_le_length (by omega), List.take_of_length_le (by omega)]; exact h3⟩
theorem freeN_some {t : TN} {tk : Pt → Bool} {fr dn : Int} : ∀ {n : Nat} {p q : Pt}, freeN t tk fr dn n = some (p, q) → p.1 = fr ∧ rpeerOf t.N t.ws t.hn t.hl p.1 p.2 = some q ∧ q.1 = dn ∧ tk p = false
  | 0, p, q, h => by rw [freeN] at h; cases h
  | n + 1, p, q, h => by
    rw [freeN] at h
    split at h
    · rename_i q' hq
      split at h
      · rename_i hc
        injection h with h
        injection h with h1 h2
        subst h1 h2
        exact ⟨rfl, hq, hc⟩
      · exact freeN_some h
    · exact freeN_some h
theorem freeN_no {t : TN} {tk : Pt → Bool} {fr dn : Int} : ∀ {n : Nat}, freeN t tk fr dn n = none → ∀ i : Nat, i < n → ∀ q, rpeerOf t.N t.ws t.hn t.hl fr (3 - (i : Int)) = some q → q.1 = dn → tk (fr, 3 - (i : Int)) = true
  | 0, h, i, hi, q, _, _ => absurd hi (by omega)
  | n + 1, h, i, hi, q, hq, hd => by
    rw [freeN] at h
    rcases Nat.lt_or_eq_of_le (Nat.le_of_lt_succ hi) with hlt | rfl
    · refine freeN_no (n := n) ?_ i hlt q hq hd
      split at h
      · split at h
        · cases h
        · exact h
      · exact h
    · rw [hq] at h
      simp only at h
      split at h
      · cases h
      · rename_i hc
        cases hb : tk (fr, 3 - (i : Int)) with
        | true => rfl
        | false => exact absurd ⟨hd, hb⟩ hc
/-- Which of the three kinds a placing is of. -/
def shapeW (k : KK) (t : TN) (x : Int × Int × Int) (y : Plc) : Prop :=
  y.c = x.1 ∧ ((x.1 = 0 ∧ y.o = (-1, 0) ∧ y.i = (t.hn, t.hl)) ∨ (x.1 = 1 ∧ y.o = (t.hn, t.hl) ∧ y.i = (-1, 0)) ∨ (2 ≤ x.1 ∧ rpeerOf t.N t.ws t.hn t.hl y.o.1 y.o.2 = some y.i ∧ y.o.1 = nodeI k t x.2.1.toNat ∧ y.i.1 = nodeI k t x.2.2.toNat))
theorem host_in {k : KK} {t : TN} {x : Int × Int × Int} (h : x.2.1 = -1) : hostQ k t x = (⟨x.1, (-1, 0), (t.hn, t.hl)⟩, true, decide (nodeI k t x.2.2.toNat = t.hn)) := by
  unfold hostQ
  rw [if_pos (by omega)]
theorem host_out {k : KK} {t : TN} {x : Int × Int × Int} (h0 : 0 ≤ x.2.1) (h : x.2.2 = -1) : hostQ k t x = (⟨x.1, (t.hn, t.hl), (-1, 0)⟩, true, decide (nodeI k t x.2.1.toNat = t.hn)) := by
  unfold hostQ
  rw [if_neg (by omega), if_pos (by omega)]
theorem host_not {k : KK} {t : TN} {x : Int × Int × Int} (h0 : 0 ≤ x.2.1) (h : 0 ≤ x.2.2) : hostQ k t x = (plcZ, false, true) := by
  unfold hostQ
  rw [if_neg (by omega), if_neg (by omega)]
theorem pick_shape {k : KK} {t : TN} {tk : Pt → Bool} {x : Int × Int × Int} {y : Plc} (hk : kindT x) (h : pickP k t tk x = some y) : shapeW k t x y ∧ (2 ≤ x.1 → tk y.o = false) ∧ (x.1 < 2 → (hostQ k t x).2.2 = true ∧ y = (hostQ k t x).1) := by
  unfold pickP at h
  rcases hk with ⟨h1, h2, h3⟩ | ⟨h1, h2, h3⟩ | ⟨h1, h2, h3⟩
  · rw [host_in h2] at h ⊢
    simp only [if_true] at h
    split at h
    · rename_i hd
      injection h with h
      subst h
      exact ⟨⟨rfl, .inl ⟨h1, rfl, rfl⟩⟩, fun h => absurd h (by omega), fun _ => ⟨hd, rfl⟩⟩
    · cases h
  · rw [host_out h3 h2] at h ⊢
    simp only [if_true] at h
    split at h
    · rename_i hd
      injection h with h
      subst h
      exact ⟨⟨rfl, .inr (.inl ⟨h1, rfl, rfl⟩)⟩, fun h => absurd h (by omega), fun _ => ⟨hd, rfl⟩⟩
    · cases h
  · rw [host_not h2 h3] at h ⊢
    simp only [Bool.false_eq_true, if_false] at h
    split at h
    · rename_i p q hf
      injection h with h
      subst h
      obtain ⟨e1, e2, e3, e4⟩ := freeN_some hf
      exact ⟨⟨rfl, .inr (.inr ⟨h1, e2, e1, e3⟩)⟩, fun _ => e4, fun h => absurd h (by omega)⟩
    · cases h
/-- What is known of a valid network. -/
structure NetF (t : TN) : Prop where
  may : mayB t.N t.ws t.hn t.hl = true
  nd : ((t.hn, t.hl) :: portsOf t.ws).Nodup
  ex : ∀ p ∈ portsOf t.ws, 0 ≤ p.1 ∧ 0 ≤ p.2 ∧ p.2 < 4
  hn0 : 0 ≤ t.hn
  df : diffAll t.ws = true
theorem netF {t : TN} (h : mayB t.N t.ws t.hn t.hl = true) : NetF t := by
  have hh := host_ok h
  have h' := h
  simp only [mayB, Bool.and_eq_true] at h'
  have h2 := (portsOk_iff _ _).1 h'.1.1.2
  refine ⟨h, h2.2, fun p hp => ?_, hh.1.1, h'.1.2⟩
  have := h2.1 p (List.mem_cons_of_mem _ hp)
  simp only [existsB, decide_eq_true_eq] at this
  omega
theorem NetF.peer {t : TN} (h : NetF t) {a b : Int} {q : Pt} : rpeerOf t.N t.ws t.hn t.hl a b = some q ↔ peerL t.ws a b = some q := by
  rw [rpeerOf, if_pos h.may]
theorem NetF.nodup {t : TN} (h : NetF t) : (portsOf t.ws).Nodup := (List.nodup_cons.1 h.nd).2
theorem NetF.host {t : TN} (h : NetF t) : (t.hn, t.hl) ∉ portsOf t.ws := (List.nodup_cons.1 h.nd).1
theorem NetF.dst {t : TN} (h : NetF t) {a b : Int} {q : Pt} (hp : rpeerOf t.N t.ws t.hn t.hl a b = some q) : q ∈ portsOf t.ws := peerL_mem (h.peer.1 hp)
theorem NetF.src {t : TN} (h : NetF t) {a b : Int} {q : Pt} (hp : rpeerOf t.N t.ws t.hn t.hl a b = some q) : (a, b) ∈ portsOf t.ws := peerL_mem (peerL_sym h.nodup (h.peer.1 hp))
theorem NetF.inj {t : TN} (h : NetF t) {a b c d : Int} {q : Pt} (hp : rpeerOf t.N t.ws t.hn t.hl a b = some q) (hq : rpeerOf t.N t.ws t.hn t.hl c d = some q) : (a, b) = (c, d) := by
  have h1 := peerL_sym h.nodup (h.peer.1 hp)
  have h2 := peerL_sym h.nodup (h.peer.1 hq)
  rw [h1] at h2
  injection h2
theorem peerL_other {ws : List Wire} (hd : diffAll ws = true) {a b : Int} {q : Pt} (h : peerL ws a b = some q) : q.1 ≠ a := by
  induction ws with
  | nil => cases h
  | cons x r ih =>
    simp only [diffAll, List.all_cons, Bool.and_eq_true, bne_iff_ne, ne_eq] at hd
    simp only [peerL] at h
    split at h
    · rename_i hab
      injection h with h
      subst h
      exact fun e => hd.1 (by rw [hab.1]; exact e.symm)
    · split at h
      · rename_i hcd
        injection h with h
        subst h
        exact fun e => hd.1 (by rw [hcd.1]; exact e)
      · exact ih (by simpa [diffAll] using hd.2) h
theorem tkOf_false {d : List Plc} {p : Pt} (h : ∀ (j : Nat) (y : Plc), d[j]? = some y → y.o ≠ p) : tkOf d p = false := by
  refine decide_eq_false fun hm => ?_
  obtain ⟨y, hy, he⟩ := List.mem_map.1 hm
  obtain ⟨j, hj⟩ := List.getElem?_of_mem hy
  exact h j y hj he
theorem tkI_false {d : List Plc} {p : Pt} (h : ∀ (j : Nat) (y : Plc), d[j]? = some y → y.i ≠ p) : tkI d p = false := by
  refine decide_eq_false fun hm => ?_
  obtain ⟨y, hy, he⟩ := List.mem_map.1 hm
  obtain ⟨j, hj⟩ := List.getElem?_of_mem hy
  exact h j y hj he
theorem take_at {α : Type} {d : List α} {j i : Nat} {y : α} (h : (d.take j)[i]? = some y) : i < j ∧ d[i]? = some y := by
  rw [List.getElem?_take] at h
  split at h
  · exact ⟨by assumption, h⟩
  · cases h
/-- Placings that are made are right, one by one. -/
theorem make_okC {k : KK} {t : TN} {bl : List (Int × Int × Int)} (hF : ChanF bl) (hN : NetF t) {n : Nat} {d : List Plc} (h : makeN k t bl n = some d) {j : Nat} (hj : j < n) {x : Int × Int × Int} {y : Plc} (hx : bl[j]? = some x) (hy : d[j]? = some y) : okC k t (d.take j) x y = true := by
  obtain ⟨x', y', e1, e2, e3⟩ := makeN_at h j hj
  rw [hx] at e1
  injection e1 with e1
  subst e1
  rw [hy] at e2
  injection e2 with e2
  subst e2
  have hk := hF.kind x (List.mem_of_getElem? hx)
  obtain ⟨⟨hc, hs⟩, htk, hho⟩ := pick_shape hk e3
  have hbefore : ∀ (i : Nat) (z : Plc), (d.take j)[i]? = some z → ∃ u, bl[i]? = some u ∧ u.1 < x.1 ∧ shapeW k t u z := by
    intro i z hz
    obtain ⟨hij, hz⟩ := take_at hz
    obtain ⟨u, v, f1, f2, f3⟩ := makeN_at h i (by omega)
    rw [hz] at f2
    injection f2 with f2
    subst f2
    exact ⟨u, f1, hF.lt f1 hx hij, (pick_shape (hF.kind u (List.mem_of_getElem? f1)) f3).1⟩
  have hkb : ∀ (i : Nat) (u : Int × Int × Int), bl[i]? = some u → 0 ≤ u.1 := fun i u hu => by
    rcases hF.kind u (List.mem_of_getElem? hu) with ⟨h1, -, -⟩ | ⟨h1, -, -⟩ | ⟨h1, -, -⟩ <;> omega
  have hn0 := hN.hn0
  have main : (wantP k t x y).2 = true ∧ y = (wantP k t x y).1 ∧ tkOf (d.take j) y.o = false ∧ tkI (d.take j) y.i = false := by
    rcases hs with ⟨h1, h2, h3⟩ | ⟨h1, h2, h3⟩ | ⟨h1, h2, h3, h4⟩
    · obtain ⟨g1, g2⟩ := hho (by omega)
      have hq : (hostQ k t x).2.1 = true := by
        rcases hk with ⟨_, k2, k3⟩ | ⟨k1, k2, k3⟩ | ⟨k1, k2, k3⟩
        · rw [host_in k2]
        · omega
        · omega
      have hno : ∀ (i : Nat) (z : Plc), (d.take j)[i]? = some z → False := fun i z hz => by
        obtain ⟨u, f1, f2, -⟩ := hbefore i z hz
        have := hkb i u f1
        omega
      unfold wantP
      rw [if_pos hq]
      exact ⟨g1, g2, tkOf_false fun i z hz => (hno i z hz).elim, tkI_false fun i z hz => (hno i z hz).elim⟩
    · obtain ⟨g1, g2⟩ := hho (by omega)
      have hq : (hostQ k t x).2.1 = true := by
        rcases hk with ⟨k1, k2, k3⟩ | ⟨k1, k2, k3⟩ | ⟨k1, k2, k3⟩
        · rw [host_in k2]
        · rw [host_out k3 k2]
        · omega
      have hone : ∀ (i : Nat) (z : Plc), (d.take j)[i]? = some z → z.o = (-1, 0) ∧ z.i = (t.hn, t.hl) := fun i z hz => by
        obtain ⟨u, f1, f2, -, f3⟩ := hbefore i z hz
        have := hkb i u f1
        rcases f3 with ⟨-, a, b⟩ | ⟨a, -⟩ | ⟨a, -⟩
        · exact ⟨a, b⟩
        · omega
        · omega
      unfold wantP
      rw [if_pos hq]
      refine ⟨g1, g2, tkOf_false fun i z hz he => ?_, tkI_false fun i z hz he => ?_⟩
      · rw [(hone i z hz).1, h2] at he
        injection he
        omega
      · rw [(hone i z hz).2, h3] at he
        injection he
        omega
    · have hq : hostQ k t x = (plcZ, false, true) := by
        rcases hk with ⟨k1, k2, k3⟩ | ⟨k1, k2, k3⟩ | ⟨k1, k2, k3⟩
        · omega
        · omega
        · exact host_not k2 k3
      have ht0 := htk h1
      unfold wantP
      rw [hq, h2]
      simp only [Bool.false_eq_true, if_false]
      refine ⟨decide_eq_true ⟨h3, h4⟩, ?_, ht0, tkI_false fun i z hz he => ?_⟩
      · rw [← hc]
      · obtain ⟨u, f1, f2, -, f3⟩ := hbefore i z hz
        have hmem := hN.dst h2
        rcases f3 with ⟨-, a, b⟩ | ⟨-, a, b⟩ | ⟨-, a, -⟩
        · rw [b] at he
          rw [← he] at hmem
          exact hN.host hmem
        · rw [b] at he
          rw [← he] at hmem
          have := (hN.ex _ hmem).1
          simp at this
        · rw [he] at a
          have e := hN.inj a h2
          have : tkOf (d.take j) y.o = true := decide_eq_true (List.mem_map.2 ⟨z, List.mem_of_getElem? hz, e⟩)
          rw [ht0] at this
          cases this
  obtain ⟨m1, m2, m3, m4⟩ := main
  unfold okC
  rw [m1, decide_eq_true m2, m3, m4]
  rfl
theorem make_check {k : KK} {t : TN} {bl : List (Int × Int × Int)} (hF : ChanF bl) (hN : NetF t) {n : Nat} {d : List Plc} (h : makeN k t bl n = some d) : ∀ m, m ≤ n → checkN k t bl d m = true
  | 0, _ => rfl
  | m + 1, hm => by
    obtain ⟨x, y, e1, e2, -⟩ := makeN_at h m (by omega)
    rw [checkN_step (make_check hF hN h m (by omega)) e1 e2]
    exact make_okC hF hN h (by omega) e1 e2
theorem checkN_at {k : KK} {t : TN} {bl : List (Int × Int × Int)} {l : List Plc} : ∀ {n : Nat}, checkN k t bl l n = true → ∀ j, j < n → ∃ x y, bl[j]? = some x ∧ l[j]? = some y ∧ okC k t (l.take j) x y = true
  | 0, _, j, hj => absurd hj (by omega)
  | n + 1, h, j, hj => by
    rw [checkN, Bool.and_eq_true] at h
    rcases Nat.lt_or_eq_of_le (Nat.le_of_lt_succ hj) with hlt | rfl
    · exact checkN_at h.1 j hlt
    · cases h1 : bl[j]? with
      | none => rw [h1] at h; cases h.2
      | some x =>
        cases h2 : l[j]? with
        | none => rw [h1, h2] at h; cases h.2
        | some y =>
          rw [h1, h2] at h
          exact ⟨x, y, rfl, rfl, h.2⟩
theorem nodup_sub {α : Type} [DecidableEq α] : ∀ {l m : List α}, l.Nodup → (∀ x ∈ l, x ∈ m) → l.length ≤ m.length
  | [], m, _, _ => Nat.zero_le _
  | x :: l, m, hd, hs => by
    rw [List.nodup_cons] at hd
    have hx := hs x (by simp)
    have h1 : l.length ≤ (m.erase x).length := nodup_sub hd.2 fun y hy => (List.mem_erase_of_ne (fun e => hd.1 (by rw [← e]; exact hy))).2 (hs y (by simp [hy]))
    have h2 := List.length_erase_of_mem hx
    have h3 := List.length_pos_of_mem hx
    rw [List.length_cons]
    omega
/-- The channel j goes between these two nodes. -/
def sameW (k : KK) (t : TN) (bl : List (Int × Int × Int)) (fr dn : Int) (j : Nat) : Bool := match bl[j]? with
  | some x => decide (2 ≤ x.1 ∧ nodeI k t x.2.1.toNat = fr ∧ nodeI k t x.2.2.toNat = dn)
  | none => false
def linksW (t : TN) (fr dn : Int) : List Pt := ((List.range 4).map fun i : Nat => (fr, 3 - (i : Int))).filter fun p => match rpeerOf t.N t.ws t.hn t.hl p.1 p.2 with
  | some q => decide (q.1 = dn)
  | none => false
theorem links_mem {t : TN} {fr dn : Int} {p : Pt} : p ∈ linksW t fr dn ↔ (∃ i : Nat, i < 4 ∧ p = (fr, 3 - (i : Int))) ∧ ∃ q, rpeerOf t.N t.ws t.hn t.hl p.1 p.2 = some q ∧ q.1 = dn := by
  unfold linksW
  rw [List.mem_filter, List.mem_map]
  refine and_congr ⟨fun ⟨i, hi, e⟩ => ⟨i, List.mem_range.1 hi, e.symm⟩, fun ⟨i, hi, e⟩ => ⟨i, List.mem_range.2 hi, e.symm⟩⟩ ?_
  cases h : rpeerOf t.N t.ws t.hn t.hl p.1 p.2 with
  | none => simp
  | some q => simp
theorem links_nodup (t : TN) (fr dn : Int) : (linksW t fr dn).Nodup := by
  refine List.Pairwise.filter _ (List.pairwise_map.2 ?_)
  refine List.Pairwise.imp ?_ (List.pairwise_lt_range (n := 4))
  intro a b hab e
  injection e
  omega
theorem okC_wire {k : KK} {t : TN} {d : List Plc} {x : Int × Int × Int} {y : Plc} (hk : kindT x) (h2 : 2 ≤ x.1) (h : okC k t d x y = true) : ∃ q, rpeerOf t.N t.ws t.hn t.hl y.o.1 y.o.2 = some q ∧ y = ⟨x.1, y.o, q⟩ ∧ y.o.1 = nodeI k t x.2.1.toNat ∧ q.1 = nodeI k t x.2.2.toNat ∧ tkOf d y.o = false := by
  have hq : hostQ k t x = (plcZ, false, true) := by
    rcases hk with ⟨k1, k2, k3⟩ | ⟨k1, k2, k3⟩ | ⟨k1, k2, k3⟩
    · omega
    · omega
    · exact host_not k2 k3
  unfold okC wantP at h
  rw [hq] at h
  simp only [Bool.false_eq_true, if_false] at h
  cases hp : rpeerOf t.N t.ws t.hn t.hl y.o.1 y.o.2 with
  | none => rw [hp] at h; simp at h
  | some q =>
    rw [hp] at h
    simp only [Bool.and_eq_true, decide_eq_true_eq, Bool.not_eq_true'] at h
    exact ⟨q, rfl, h.1.1.2, h.1.1.1.1, h.1.1.1.2, h.1.2⟩
theorem make_none {k : KK} {t : TN} {bl : List (Int × Int × Int)} {l : List Plc} (hF : ChanF bl) (hN : NetF t) : ∀ n, n ≤ bl.length → makeN k t bl n = none → checkN k t bl l n = true → False
  | 0, _, h, _ => by rw [makeN] at h; cases h
  | n + 1, hn, h, hc => by
    have hc' := hc
    rw [checkN, Bool.and_eq_true] at hc'
    rw [makeN] at h
    cases h1 : makeN k t bl n with
    | none => exact make_none hF hN n (by omega) h1 hc'.1
    | some d =>
      rw [h1] at h
      obtain ⟨x, y, e1, e2, e3⟩ := checkN_at hc n (by omega)
      rw [e1] at h
      cases h3 : pickP k t (tkOf d) x with
      | some z => simp only [h3] at h; cases h
      | none =>
        have hk := hF.kind x (List.mem_of_getElem? e1)
        have hw : (wantP k t x y).2 = true := by
          unfold okC at e3
          simp only [Bool.and_eq_true] at e3
          exact e3.1.1.1
        unfold pickP at h3
        by_cases h2 : 2 ≤ x.1
        · have hq : hostQ k t x = (plcZ, false, true) := by
            rcases hk with ⟨k1, k2, k3⟩ | ⟨k1, k2, k3⟩ | ⟨k1, k2, k3⟩
            · omega
            · omega
            · exact host_not k2 k3
          rw [hq] at h3
          simp only [Bool.false_eq_true, if_false] at h3
          obtain ⟨fr, hfr⟩ : ∃ q, nodeI k t x.2.1.toNat = q := ⟨_, rfl⟩
          obtain ⟨dn, hdn⟩ : ∃ q, nodeI k t x.2.2.toNat = q := ⟨_, rfl⟩
          rw [hfr, hdn] at h3
          have hf : freeN t (tkOf d) fr dn 4 = none := by
            cases hf : freeN t (tkOf d) fr dn 4 with
            | none => rfl
            | some z => rw [hf] at h3; obtain ⟨p, q⟩ := z; cases h3
          have hsn : sameW k t bl fr dn n = true := by
            unfold sameW
            rw [e1]
            exact decide_eq_true ⟨h2, hfr, hdn⟩
          have hJ : (List.range (n + 1)).filter (sameW k t bl fr dn) = (List.range n).filter (sameW k t bl fr dn) ++ [n] := by
            rw [List.range_succ, List.filter_append]
            simp [hsn]
          -- at least as many wires as channels that fit
          have hA : ((List.range (n + 1)).filter (sameW k t bl fr dn)).length ≤ (linksW t fr dn).length := by
            have hnd : (((List.range (n + 1)).filter (sameW k t bl fr dn)).map fun j => (l.getD j plcZ).o).Nodup := by
              refine List.pairwise_map.2 (List.Pairwise.imp_of_mem ?_ (List.Pairwise.filter _ (List.pairwise_lt_range (n := n + 1))))
              intro a b ha hb hab he
              obtain ⟨hb1, hb2⟩ := List.mem_filter.1 hb
              rw [List.mem_range] at hb1
              obtain ⟨u, v, f1, f2, f3⟩ := checkN_at hc b hb1
              obtain ⟨u', v', f1', f2', -⟩ := checkN_at hc a (by omega)
              unfold sameW at hb2
              rw [f1] at hb2
              have hb3 := of_decide_eq_true hb2
              obtain ⟨q, -, -, -, -, g⟩ := okC_wire (hF.kind u (List.mem_of_getElem? f1)) hb3.1 f3
              have : tkOf (l.take b) v.o = true := decide_eq_true (List.mem_map.2 ⟨v', List.mem_of_getElem? (i := a) (by rw [List.getElem?_take, if_pos hab]; exact f2'), by
                rw [List.getD_eq_getElem?_getD, List.getD_eq_getElem?_getD, f2, f2'] at he
                exact he⟩)
              rw [g] at this
              cases this
            refine Nat.le_trans (by rw [List.length_map]; exact Nat.le_refl _) (nodup_sub hnd ?_)
            intro p hp
            obtain ⟨j, hj, rfl⟩ := List.mem_map.1 hp
            obtain ⟨hj1, hj2⟩ := List.mem_filter.1 hj
            rw [List.mem_range] at hj1
            obtain ⟨u, v, f1, f2, f3⟩ := checkN_at hc j hj1
            unfold sameW at hj2
            rw [f1] at hj2
            have hj3 := of_decide_eq_true hj2
            obtain ⟨q, g1, -, g2, g3, -⟩ := okC_wire (hF.kind u (List.mem_of_getElem? f1)) hj3.1 f3
            rw [List.getD_eq_getElem?_getD, f2]
            refine links_mem.2 ⟨?_, q, g1, by rw [g3]; exact hj3.2.2⟩
            have := hN.ex _ (hN.src g1)
            refine ⟨(3 - v.o.2).toNat, by simp at this; omega, ?_⟩
            have e1 : v.o.1 = fr := by rw [g2]; exact hj3.2.1
            show v.o = _
            have this2 : 0 ≤ v.o.1 ∧ 0 ≤ v.o.2 ∧ v.o.2 < 4 := this
            exact Prod.ext e1 (by simp only; omega)
          -- and all of them are taken
          have hB : (linksW t fr dn).length ≤ ((List.range n).filter (sameW k t bl fr dn)).length := by
            have : (linksW t fr dn).length ≤ (((List.range n).filter (sameW k t bl fr dn)).map fun j => (d.getD j plcZ).o).length := by
              refine nodup_sub (links_nodup t fr dn) ?_
              intro p hp
              obtain ⟨⟨i, hi, rfl⟩, q, hq1, hq2⟩ := links_mem.1 hp
              have htk := freeN_no hf i hi q hq1 hq2
              obtain ⟨z, hz, he⟩ := List.mem_map.1 (of_decide_eq_true htk)
              obtain ⟨j, hj⟩ := List.getElem?_of_mem hz
              have hjn : j < n := by
                have := (List.getElem?_eq_some_iff.1 hj).1
                rw [makeN_len h1] at this
                exact this
              obtain ⟨u, v, f1, f2, f3⟩ := makeN_at h1 j hjn
              rw [hj] at f2
              injection f2 with f2
              subst f2
              have hsrc := hN.src hq1
              have hs := (pick_shape (hF.kind u (List.mem_of_getElem? f1)) f3).1.2
              refine List.mem_map.2 ⟨j, List.mem_filter.2 ⟨List.mem_range.2 hjn, ?_⟩, by rw [List.getD_eq_getElem?_getD, hj]; exact he⟩
              rcases hs with ⟨-, a, b⟩ | ⟨-, a, b⟩ | ⟨h5, a, b, c⟩
              · rw [a] at he
                rw [← he] at hsrc
                have := (hN.ex _ hsrc).1
                simp at this
              · rw [a] at he
                rw [← he] at hsrc
                exact (hN.host hsrc).elim
              · unfold sameW
                rw [f1]
                refine decide_eq_true ⟨h5, ?_, ?_⟩
                · rw [← b, he]
                · rw [he, hq1] at a
                  injection a with a
                  rw [← c, ← a, hq2]
            rw [List.length_map] at this
            exact this
          rw [hJ, List.length_append] at hA
          simp at hA
          omega
        · have hq : (hostQ k t x).2.1 = true := by
            rcases hk with ⟨k1, k2, k3⟩ | ⟨k1, k2, k3⟩ | ⟨k1, k2, k3⟩
            · rw [host_in k2]
            · rw [host_out k3 k2]
            · omega
          rw [if_pos hq] at h3
          unfold wantP at hw
          rw [if_pos hq] at hw
          simp only at hw
          rw [if_pos hw] at h3
          cases h3
/-- If no placings are made, no others fit. -/
theorem check_none {k : KK} {t : TN} (l : List Plc) (h : (makeQ k t).1 ≠ 0) : checkQ k t l = false := by
  unfold checkQ
  split
  · rename_i hc
    obtain ⟨h0, hm, hl⟩ := hc
    have hmk : mayK k = true := by
      cases hk : mayK k with
      | true => rfl
      | false => unfold betweenQ at h0; rw [hk] at h0; simp at h0
    unfold makeQ at h
    rw [if_pos ⟨hmk, hm⟩, if_pos h0] at h
    cases hn : makeN k t (betweenQ k).2 (betweenQ k).2.length with
    | some d => rw [hn] at h; simp at h
    | none =>
      cases hcc : checkN k t (betweenQ k).2 l l.length with
      | false => rfl
      | true => exact (make_none (chanF h0) (netF hm) _ (Nat.le_refl _) hn (by rw [← hl]; exact hcc)).elim
  · rfl
/-- What is known of placings that are made. -/
theorem make_good {k : KK} {t : TN} (h : (makeQ k t).1 = 0) : mayK k = true ∧ mayB t.N t.ws t.hn t.hl = true ∧ (betweenQ k).1 = 0 ∧ makeN k t (betweenQ k).2 (betweenQ k).2.length = some (makeQ k t).2 := by
  unfold makeQ at h ⊢
  split at h
  · rename_i hm
    rw [if_pos hm]
    split at h
    · rename_i h0
      rw [if_pos h0]
      split at h
      · rename_i d hd
        simp only [hd]
        exact ⟨hm.1, hm.2, h0, trivial⟩
      · cases h
    · rename_i h0
      exact absurd h h0
  · cases h
theorem make_err {k : KK} {t : TN} (h : (makeQ k t).1 ≠ 0) : ((makeQ k t).1 = 2 ∧ (mayK k = false ∨ mayB t.N t.ws t.hn t.hl = false)) ∨ (makeQ k t).1 = 400 := by
  unfold makeQ at h ⊢
  split
  · rename_i hm
    split
    · rename_i h0
      split
      · rename_i d hd
        rw [if_pos hm, if_pos h0, hd] at h
        simp at h
      · exact .inr rfl
    · rename_i h0
      refine .inr ?_
      unfold betweenQ at h0 ⊢
      rw [if_pos hm.1] at h0 ⊢
      cases hb : betweenK k with
      | none => rfl
      | some l => rw [hb] at h0; simp at h0
  · rename_i hm
    refine .inl ⟨rfl, ?_⟩
    cases h1 : mayK k with
    | false => exact .inl rfl
    | true =>
      cases h2 : mayB t.N t.ws t.hn t.hl with
      | false => exact .inr rfl
      | true => exact (hm ⟨h1, h2⟩).elim
theorem check_made {k : KK} {t : TN} (h : (makeQ k t).1 = 0) : (betweenQ k).2.length = (makeQ k t).2.length ∧ checkQ k t (makeQ k t).2 = true := by
  obtain ⟨h1, h2, h3, h4⟩ := make_good h
  have hl := makeN_len h4
  refine ⟨hl.symm, ?_⟩
  unfold checkQ
  rw [if_pos ⟨h3, h2, hl⟩]
  exact make_check (chanF h3) (netF h2) h4 _ (by omega)
/-- One placing of those that are made. -/
theorem made_at {k : KK} {t : TN} (h : (makeQ k t).1 = 0) {j : Nat} {x : Int × Int × Int} {y : Plc} (hx : (betweenQ k).2[j]? = some x) (hy : (makeQ k t).2[j]? = some y) :
    y.c = x.1 ∧ (1 < y.c → rpeerOf t.N t.ws t.hn t.hl y.o.1 y.o.2 = some y.i) ∧ (y.c = 0 → y.i = (t.hn, t.hl)) ∧ (y.c = 1 → y.o = (t.hn, t.hl)) := by
  obtain ⟨h1, h2, h3, h4⟩ := make_good h
  have hj : j < (betweenQ k).2.length := (List.getElem?_eq_some_iff.1 hx).1
  obtain ⟨u, v, e1, e2, e3⟩ := makeN_at h4 j hj
  rw [hx] at e1
  injection e1 with e1
  subst e1
  rw [hy] at e2
  injection e2 with e2
  subst e2
  obtain ⟨⟨hc, hs⟩, -, -⟩ := pick_shape ((chanF h3).kind x (List.mem_of_getElem? hx)) e3
  refine ⟨hc, fun h => ?_, fun h => ?_, fun h => ?_⟩ <;> rcases hs with ⟨a, b, c⟩ | ⟨a, b, c⟩ | ⟨a, b, c, e⟩
  all_goals first | exact b | exact c | (exfalso; omega)
theorem made_up {k : KK} {t : TN} (h : (makeQ k t).1 = 0) {i j : Nat} {y z : Plc} (hy : (makeQ k t).2[i]? = some y) (hz : (makeQ k t).2[j]? = some z) (hij : i < j) : y.c < z.c := by
  obtain ⟨h1, h2, h3, h4⟩ := make_good h
  have hl := makeN_len h4
  have hi : i < (makeQ k t).2.length := (List.getElem?_eq_some_iff.1 hy).1
  have hj : j < (makeQ k t).2.length := (List.getElem?_eq_some_iff.1 hz).1
  rw [hl] at hi hj
  have e1 := List.getElem?_eq_getElem hi
  have e2 := List.getElem?_eq_getElem hj
  rw [(made_at h e1 hy).1, (made_at h e2 hz).1]
  exact (chanF h3).lt e1 e2 hij
/-- A placing changed to lead back to its own port does not fit. -/
theorem check_back {k : KK} {t : TN} (h : (makeQ k t).1 = 0) {j : Nat} {y : Plc} (hy : (makeQ k t).2[j]? = some y) (h2 : 1 < y.c) : checkQ k t ((makeQ k t).2.set j ⟨y.c, y.o, y.o⟩) = false := by
  obtain ⟨m1, m2, m3, m4⟩ := make_good h
  have hl := makeN_len m4
  have hj : j < (makeQ k t).2.length := (List.getElem?_eq_some_iff.1 hy).1
  have hN := netF m2
  unfold checkQ
  rw [if_pos ⟨m3, m2, by rw [List.length_set]; exact hl⟩]
  cases hc : checkN k t (betweenQ k).2 ((makeQ k t).2.set j ⟨y.c, y.o, y.o⟩) ((makeQ k t).2.set j ⟨y.c, y.o, y.o⟩).length with
  | false => rfl
  | true =>
    obtain ⟨u, v, e1, e2, e3⟩ := checkN_at hc j (by rw [List.length_set]; exact hj)
    rw [List.getElem?_set_self hj] at e2
    injection e2 with e2
    subst e2
    have hu := (made_at h e1 hy).1
    obtain ⟨q, g1, g2, -⟩ := okC_wire ((chanF m3).kind u (List.mem_of_getElem? e1)) (by omega) e3
    injection g2 with _ _ g3
    have hne := peerL_other hN.df (hN.peer.1 g1)
    exact (hne (by rw [← g3])).elim
theorem NetF.small {t : TN} (h : NetF t) {p : Pt} (hp : p ∈ portsOf t.ws) : okPt p := by
  have h' := h.may
  simp only [mayB, Bool.and_eq_true, decide_eq_true_eq] at h'
  have h2 := (portsOk_iff _ _).1 h'.1.1.2
  have := h2.1 p (List.mem_cons_of_mem _ hp)
  simp only [existsB, decide_eq_true_eq] at this
  exact ⟨⟨by omega, by omega⟩, by omega, by omega⟩
/-- The ports of placings that are made are small. -/
theorem made_okPt {k : KK} {t : TN} (h : (makeQ k t).1 = 0) : ∀ y ∈ (makeQ k t).2, okPt y.o ∧ okPt y.i := by
  obtain ⟨h1, h2, h3, h4⟩ := make_good h
  have hl := makeN_len h4
  have hN := netF h2
  have hh := host_ok h2
  intro y hy
  obtain ⟨j, hj⟩ := List.getElem?_of_mem hy
  have hjl : j < (betweenQ k).2.length := by
    have := (List.getElem?_eq_some_iff.1 hj).1
    rwa [hl] at this
  obtain ⟨u, v, e1, e2, e3⟩ := makeN_at h4 j hjl
  rw [hj] at e2
  injection e2 with e2
  subst e2
  have hs := (pick_shape ((chanF h3).kind u (List.mem_of_getElem? e1)) e3).1.2
  have hm : okPt (-1, 0) := ⟨⟨by simp, by simp⟩, ⟨by simp, by simp⟩⟩
  have ht : okPt (t.hn, t.hl) := ⟨⟨by simp only; omega, by simp only; omega⟩, ⟨by simp only; omega, by simp only; omega⟩⟩
  rcases hs with ⟨-, a, b⟩ | ⟨-, a, b⟩ | ⟨-, a, -⟩
  · rw [a, b]; exact ⟨hm, ht⟩
  · rw [a, b]; exact ⟨ht, hm⟩
  · exact ⟨hN.small (hN.src a), hN.small (hN.dst a)⟩
end Go.Proofs.Ytekamebpjjkifaa
