/- Plain: a network may be joined just where its ports exist and differ. -/
import Derived.Test.YtadpenphiagdmaaR3
namespace Go.Proofs.Ytadpenphiagdmaa
open Go.RowKit
set_option linter.unusedVariables false
set_option linter.unusedSimpArgs false

theorem portEq_iff (p q : Pt) : portEq p.1 p.2 q.1 q.2 = true ↔ p = q := by
  rcases p with ⟨a, b⟩
  rcases q with ⟨c, d⟩
  simp [portEq]
theorem portEq_ne (p q : Pt) : portEq p.1 p.2 q.1 q.2 = false ↔ p ≠ q := by
  rw [← Bool.not_eq_true, portEq_iff]
theorem portsOk_iff (N : Int) (l : List Pt) : portsOk N l = true ↔ (∀ p ∈ l, existsB N p.1 p.2 = true) ∧ l.Nodup := by
  constructor
  · intro h
    refine ⟨portsOk_at h, ?_⟩
    rw [List.Nodup, List.pairwise_iff_getElem]
    intro i j hi hj hij he
    simp only [portsOk, List.all_eq_true] at h
    have h2 := h j (by simpa using hj)
    simp only [okAt, List.getElem?_eq_getElem hj, Bool.and_eq_true, List.all_eq_true] at h2
    have h3 := h2.2 l[i] (by rw [List.mem_iff_getElem?]; exact ⟨i, by rw [List.getElem?_take, if_pos hij, List.getElem?_eq_getElem hi]⟩)
    rw [Bool.not_eq_true', portEq_ne] at h3
    exact h3 he
  · rintro ⟨h1, h2⟩
    refine portsOk_of fun j hj => ?_
    refine okAt_yes (List.getElem?_eq_getElem hj) (h1 _ (List.getElem_mem hj)) ?_
    rw [List.all_eq_true]
    intro q hq
    rw [Bool.not_eq_true', portEq_ne]
    obtain ⟨i, hi⟩ := List.mem_iff_getElem?.1 hq
    rw [List.getElem?_take] at hi
    split at hi
    · rename_i hij
      obtain ⟨hil, rfl⟩ := List.getElem?_eq_some_iff.1 hi
      rw [List.Nodup, List.pairwise_iff_getElem] at h2
      exact h2 i j hil hj hij
    · cases hi
theorem peerL_none_iff (ws : List Wire) (a b : Int) : peerL ws a b = none ↔ (a, b) ∉ portsOf ws := by
  induction ws with
  | nil => simp [peerL, portsOf]
  | cons x r ih =>
    simp only [peerL, portsOf, List.flatMap_cons, List.mem_append, List.mem_cons, Prod.mk.injEq, List.not_mem_nil, or_false] at ih ⊢
    by_cases h1 : x.a = a ∧ x.b = b
    · rw [if_pos h1]; simp [h1.1, h1.2]
    · rw [if_neg h1]
      by_cases h2 : x.c = a ∧ x.d = b
      · rw [if_pos h2]; simp [h2.1, h2.2]
      · rw [if_neg h2, ih]
        constructor
        · rintro h ((⟨e1, e2⟩ | ⟨e1, e2⟩) | h3)
          · exact h1 ⟨e1.symm, e2.symm⟩
          · exact h2 ⟨e1.symm, e2.symm⟩
          · exact h h3
        · exact fun h h3 => h (.inr h3)
theorem wireOk_iff (N hn hl : Int) (pre : List Wire) (x : Wire) : wireOk N hn hl pre x = true ↔
    (x.a, x.b) ∉ portsOf pre ∧ (x.c, x.d) ∉ portsOf pre ∧ x.a ≠ x.c ∧ (x.a, x.b) ≠ (hn, hl) ∧ (x.c, x.d) ≠ (hn, hl) ∧ existsB N x.a x.b = true ∧ existsB N x.c x.d = true := by
  rw [← peerL_none_iff, ← peerL_none_iff, ← portEq_ne (x.a, x.b) (hn, hl), ← portEq_ne (x.c, x.d) (hn, hl)]
  simp only [wireOk, Bool.and_eq_true, Bool.not_eq_true', Option.isSome_eq_false_iff, Option.isNone_iff_eq_none, beq_eq_false_iff_ne, ne_eq, and_assoc]
theorem wires_iff (N hn hl : Int) (ws : List Wire) : ∀ n, n ≤ ws.length → ((∀ i, i < n → wireAt N hn hl ws i = true) ↔
    (∀ p ∈ portsOf (ws.take n), existsB N p.1 p.2 = true) ∧ ((hn, hl) :: portsOf (ws.take n)).Nodup ∧ ∀ x ∈ ws.take n, x.a ≠ x.c)
  | 0, _ => by simp [portsOf]
  | n + 1, hn' => by
    have ih := wires_iff N hn hl ws n (by omega)
    obtain ⟨x, hx⟩ : ∃ x, ws[n]? = some x := ⟨_, List.getElem?_eq_getElem (by omega)⟩
    have e : ws.take (n + 1) = ws.take n ++ [x] := by rw [List.take_add_one, hx]; rfl
    have e2 := portsOf_take hx
    have h1 : (∀ i, i < n + 1 → wireAt N hn hl ws i = true) ↔ (∀ i, i < n → wireAt N hn hl ws i = true) ∧ wireOk N hn hl (ws.take n) x = true := by
      have hw : wireAt N hn hl ws n = wireOk N hn hl (ws.take n) x := by simp [wireAt, hx]
      constructor
      · exact fun h => ⟨fun i hi => h i (by omega), by rw [← hw]; exact h n (by omega)⟩
      · rintro ⟨h, h2⟩ i hi
        rcases Nat.lt_or_ge i n with h3 | h3
        · exact h i h3
        · obtain rfl : i = n := by omega
          rw [hw]; exact h2
    rw [h1, ih, wireOk_iff, e2, e]
    generalize portsOf (ws.take n) = L
    simp only [List.nodup_cons, List.nodup_append, List.mem_append, List.mem_cons, List.not_mem_nil, or_false, not_or]
    constructor
    · rintro ⟨⟨a1, ⟨a2, a3⟩, a4⟩, b1, b2, b3, b4, b5, b6, b7⟩
      refine ⟨?_, ⟨⟨a2, fun h => b4 h.symm, fun h => b5 h.symm⟩, a3, ⟨?_, by simp⟩, ?_⟩, ?_⟩
      · rintro p (h | rfl | rfl)
        · exact a1 p h
        · exact b6
        · exact b7
      · intro h; simp at h; exact b3 h.1
      · rintro p hp q (rfl | rfl) rfl
        · exact b1 hp
        · exact b2 hp
      · rintro y (h | rfl)
        · exact a4 y h
        · exact b3
    · rintro ⟨c1, ⟨⟨c2, c3, c4⟩, c5, c6, c7⟩, c8⟩
      refine ⟨⟨fun p hp => c1 p (.inl hp), ⟨c2, c5⟩, fun y hy => c8 y (.inl hy)⟩, fun h => c7 _ h _ (.inl rfl) rfl, fun h => c7 _ h _ (.inr rfl) rfl, c8 x (.inr rfl), fun h => c3 h.symm, fun h => c4 h.symm, c1 _ (.inr (.inl rfl)), c1 _ (.inr (.inr rfl))⟩

theorem joinB_eq (N hn hl : Int) (ws : List Wire) : joinB N hn hl ws = (decide (1 ≤ N) && decide (N ≤ 8) && decide (ws.length ≤ 32) && portsOk N ((hn, hl) :: portsOf ws) && diffAll ws) := by
  rw [Bool.eq_iff_iff]
  have h := wires_iff N hn hl ws ws.length (Nat.le_refl _)
  rw [List.take_length] at h
  simp only [joinB, Bool.and_eq_true, portsOk_iff, List.all_eq_true, List.mem_range, List.mem_cons, diffAll, bne_iff_ne, h]
  constructor
  · rintro ⟨⟨a, b⟩, c, d, e⟩
    refine ⟨⟨a, ?_, d⟩, e⟩
    rintro p (rfl | hp)
    · exact b
    · exact c p hp
  · rintro ⟨⟨a, b, d⟩, e⟩
    exact ⟨⟨a, b _ (.inl rfl)⟩, fun p hp => b p (.inr hp), d, e⟩
theorem mayB_join (N hn hl : Int) (ws : List Wire) : mayB N ws hn hl = (joinB N hn hl ws && decide (((orderOf ws hn hl).length : Int) = N)) := by
  rw [joinB_eq]; rfl
theorem joinB_net {N hn hl : Int} {ws : List Wire} (h : joinB N hn hl ws = true) : NetOk N ws hn := by
  rw [joinB_eq] at h
  simp only [Bool.and_eq_true, decide_eq_true_eq] at h
  exact net_of h.1.1.1.1 h.1.1.1.2 h.1.2
end Go.Proofs.Ytadpenphiagdmaa
