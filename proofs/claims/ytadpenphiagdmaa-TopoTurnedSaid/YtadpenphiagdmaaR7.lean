/- The program's Route. -/
import Derived.Test.YtadpenphiagdmaaR6
import Derived.Test.YtadpenphiagdmaaW11
namespace Go.Proofs.Ytadpenphiagdmaa
open Go.RowKit
set_option linter.unusedVariables false
set_option linter.unusedSimpArgs false

/-- What the array of steps holds behind a way up. -/
def sgo : List Int → Nat → List Int → List Int
  | [], _, s => s
  | x :: r, k, s => sgo r (k + 1) (s.set x.toNat ((k : Int) + 1))
def steps (l : List Int) : List Int := sgo l 0 (List.replicate 8 0)
theorem sgo_snoc (l : List Int) (x : Int) : ∀ (k : Nat) (s : List Int), sgo (l ++ [x]) k s = (sgo l k s).set x.toNat (((k + l.length : Nat) : Int) + 1) := by
  induction l with
  | nil => intro k s; simp [sgo]
  | cons y r ih => intro k s; simp only [List.cons_append, sgo, ih, List.length_cons]; rw [show k + 1 + r.length = k + (r.length + 1) from by omega]
theorem steps_snoc (l : List Int) (x : Int) : steps (l ++ [x]) = (steps l).set x.toNat ((l.length : Int) + 1) := by
  rw [steps, sgo_snoc, Nat.zero_add]; rfl
theorem sgo_length (l : List Int) : ∀ (k : Nat) (s : List Int), (sgo l k s).length = s.length := by
  induction l with
  | nil => exact fun k s => rfl
  | cons y r ih => intro k s; rw [sgo, ih]; simp
theorem steps_length (l : List Int) : (steps l).length = 8 := by rw [steps, sgo_length]; rfl
def sarr (l : List Int) : Array Value := (icells (steps l)).toArray
theorem sarr_snoc (l : List Int) (x : Int) : sarr (l ++ [x]) = (sarr l).setIfInBounds x.toNat (.int .i64 ((l.length : Int) + 1)) := by
  rw [sarr, sarr, steps_snoc, icells, icells, List.map_set, List.setIfInBounds_toArray]
theorem sarr_get (l : List Int) (x : Int) (h0 : 0 ≤ x) (h8 : x < 8) : (sarr l)[x.toNat]? = some (.int .i64 ((steps l).getD x.toNat 0)) := by
  have h : x.toNat < (steps l).length := by rw [steps_length]; omega
  simp only [sarr, icells, List.getElem?_toArray, List.getElem?_map, List.getElem?_eq_getElem h, List.getD_eq_getElem?_getD]
  rfl
/-- Each number of steps is 0, or no more than the length. -/
theorem sgo_bound (l : List Int) : ∀ (k : Nat) (s : List Int), (∀ v ∈ s, 0 ≤ v ∧ v ≤ (k : Int)) → ∀ v ∈ sgo l k s, 0 ≤ v ∧ v ≤ ((k + l.length : Nat) : Int) := by
  induction l with
  | nil => intro k s h v hv; have := h v hv; simp; omega
  | cons y r ih =>
    intro k s h v hv
    have := ih (k + 1) _ (fun v hv => by
      rcases List.mem_or_eq_of_mem_set hv with h1 | rfl
      · have := h v h1; omega
      · omega) v hv
    simp only [List.length_cons]; omega
theorem steps_bound (l : List Int) (n : Nat) : 0 ≤ (steps l).getD n 0 ∧ (steps l).getD n 0 ≤ (l.length : Int) := by
  rw [List.getD_eq_getElem?_getD]
  rcases Nat.lt_or_ge n (steps l).length with h | h
  · rw [List.getElem?_eq_getElem h]
    have := sgo_bound l 0 (List.replicate 8 0) (fun v hv => by have := List.eq_of_mem_replicate hv; omega) _ (List.getElem_mem h)
    simpa using this
  · rw [List.getElem?_eq_none h]; simp <;> omega
theorem steps_last (l : List Int) (x : Int) (h8 : x.toNat < 8) : (steps (l ++ [x])).getD x.toNat 0 = (l.length : Int) + 1 := by
  rw [steps_snoc, List.getD_eq_getElem?_getD, List.getElem?_set_self (by rw [steps_length]; exact h8)]; rfl

theorem parent_ok {N hn hl x : Int} {ws : List Wire} (h : NetOk N ws hn) : 0 ≤ parentOf ws hn hl x ∧ parentOf ws hn hl x < N := by
  rw [parentOf]
  cases hq : peerL ws (upOf ws hn hl x).1 (upOf ws hn hl x).2 with
  | none => have := h.n1; simp <;> omega
  | some q => exact peerL_ok h hq

/-- The way of the program: up to the first node of the other way, and down from there. -/
def metAt (a b : List Int) : Nat := b.findIdx fun y => (steps a).getD y.toNat 0 != 0
def trouteL (ws : List Wire) (hn hl : Int) (a b : List Int) : List Int :=
  ups ws hn hl (a.take ((steps a).getD (b.getD (metAt a b) 0).toNat 0 - 1).toNat) ++ downs ws hn hl (b.take (metAt a b))

theorem _root_.Go.World.ownsRow.pre {w : World} {B e n k cap g : Nat} {xs : List Value} (h : w.ownsRow B e 1 (.slice (some ⟨g, 0, none⟩) n cap) n xs) (hk : k ≤ n) : w.ownsRow B e 1 (.slice (some ⟨g, 0, none⟩) k cap) k (xs.take k) := by
  obtain ⟨h1, (⟨h2, _⟩ | ⟨g', cap', cur, e', hb, hg, hc, hm, hs, ht⟩)⟩ := h
  · cases h2
  · injection e' with e1 e2 e3
    injection e1 with e1
    injection e1 with e4
    subst e4 e3
    refine ⟨by rw [List.length_take, h1]; omega, .inr ⟨g, cap, cur, rfl, hb, hg, by omega, hm, hs, ?_⟩⟩
    rw [← ht, List.take_take]
    congr 1; omega
theorem ownsRow_lenOf {w : World} {B e size n : Nat} {v : Value} {xs : List Value} (h : w.ownsRow B e size v n xs) : lenOf v = n := by
  rcases h.2 with ⟨rfl, rfl⟩ | ⟨g, cap, cur, rfl, _⟩ <;> rfl
theorem ownsOff.farRow {w : World} {B e size n : Nat} {v : Value} {xs : List Value} (h : w.ownsRow B e size v n xs) {p : Addr} (hp : p.block < B) (u : Value) : (w.setCell p u).ownsRow B e size v n xs := by
  obtain ⟨h1, h2⟩ := h
  refine ⟨h1, ?_⟩
  rcases h2 with h2 | ⟨g, cap, cur, rfl, hb, hg, rest⟩
  · exact .inl h2
  · exact .inr ⟨g, cap, cur, rfl, hb, (Below.heap_setCell w p u g (by omega)).trans hg, rest⟩
theorem ownsRow_cap {w : World} {B e size n cap : Nat} {A : Option Addr} {xs : List Value} (h : w.ownsRow B e size (.slice A n cap) n xs) : n ≤ cap ∧ (if cap = 0 then A else Option.map (fun x => x.add 0) A) = A := by
  refine ⟨?_, ?_⟩
  · rcases h.2 with ⟨e1, _⟩ | ⟨g, cap', cur, e1, _, _, hc, _⟩
    · injection e1 with _ e2 e3; omega
    · injection e1 with _ _ e3; omega
  · split
    · rfl
    · cases A
      · rfl
      · simp [Addr.add]
theorem ownsRow_pre {w : World} {B e n k cap : Nat} {A : Option Addr} {xs : List Value} (h : w.ownsRow B e 1 (.slice A n cap) n xs) (hk : k ≤ n) : w.ownsRow B e 1 (.slice A k cap) k (xs.take k) := by
  rcases A with _ | ⟨g, o, x⟩
  · rcases h.2 with ⟨e1, e2⟩ | ⟨g, cap', cur, e1, _⟩
    · have hx : xs = [] := List.eq_nil_of_length_eq_zero (by have := h.1; rw [e2] at this; omega)
      cases e1
      obtain rfl : k = 0 := by omega
      rw [hx, List.take_nil]
      exact World.ownsRow_nil _ _ _ _
    · cases e1
  · obtain ⟨g', cap', e1, _⟩ : ∃ g cap', Value.slice (some ⟨g, 0, none⟩) n cap' = Value.slice (some ⟨_, _, _⟩) n cap ∧ True := by
      rcases h.2 with ⟨e1, _⟩ | ⟨g', cap', cur, e1, _⟩
      · cases e1
      · exact ⟨g', cap', e1.symm, trivial⟩
    injection e1 with e2 e3 e4
    injection e2 with e2
    rw [← e2] at h ⊢
    exact h.pre hk
theorem ownsRow_keep {w w' : World} {B e size n : Nat} {v : Value} {xs : List Value} {row : Option Nat} (h : w.ownsRow B e size v n xs) (hg : w.grownBy w' row) (hne : ∀ g, row = some g → v.ownBlock ≠ some g) : w'.ownsRow B e size v n xs := by
  obtain ⟨h1, h2⟩ := h
  refine ⟨h1, ?_⟩
  rcases h2 with h2 | ⟨g, cap, cur, rfl, hb, hh, rest⟩
  · exact .inl h2
  · refine .inr ⟨g, cap, cur, rfl, hb, (hg.block g (Array.getElem?_eq_some_iff.1 hh).1 (fun e => hne g e.symm rfl)).trans hh, rest⟩
theorem met_eq {a b : List Int} {j : Nat} {y : Int} (hy : b[j]? = some y) (h : (steps a).getD y.toNat 0 ≠ 0) (hb : ∀ t z, t < j → b[t]? = some z → (steps a).getD z.toNat 0 = 0) : metAt a b = j := by
  obtain ⟨hj, rfl⟩ := List.getElem?_eq_some_iff.1 hy
  rw [metAt, List.findIdx_eq hj]
  refine ⟨by simpa using h, fun t ht => ?_⟩
  have := hb t _ ht (List.getElem?_eq_getElem (by omega))
  simpa using this
theorem ownsRow_form {w : World} {B e size n : Nat} {v : Value} {xs : List Value} (h : w.ownsRow B e size v n xs) : ∃ A cap, v = .slice A n cap := by
  rcases h.2 with ⟨rfl, rfl⟩ | ⟨g, cap, cur, rfl, _⟩
  · exact ⟨_, _, rfl⟩
  · exact ⟨_, _, rfl⟩
theorem pathF_head {ws : List Wire} {hn hl x : Int} {f : Nat} {l : List Int} (h : pathF ws hn hl f x = some l) : ∃ r, l = x :: r := by
  cases f with
  | zero => cases h
  | succ f =>
    simp only [pathF] at h
    split at h
    · injection h with h; exact ⟨[], h.symm⟩
    · rw [Option.map_eq_some_iff] at h
      obtain ⟨r, _, rfl⟩ := h; exact ⟨r, rfl⟩
theorem drop_head {l r : List Int} {i : Nat} {x : Int} (h : l.drop i = x :: r) : l[i]? = some x ∧ l.drop (i + 1) = r ∧ l.take (i + 1) = l.take i ++ [x] := by
  have hx : l[i]? = some x := by have := List.getElem?_drop (xs := l) (i := i) (j := 0); rw [h] at this; simpa using this.symm
  refine ⟨hx, ?_, by rw [List.take_add_one, hx]; rfl⟩
  rw [← List.drop_drop, h]; rfl
theorem blk_T {w : World} {b t : Nat} {cs : Array Value} {T : List Int} {i : Nat} (h : Blk w b t cs) (hc : cs.toList = icells T) (hi : i < T.length) : w.cell? ⟨b, i, none⟩ = some (.int .i64 (T.getD i 0)) := by
  rw [h.cell, ← Array.getElem?_toList, hc, icells, List.getElem?_map, List.getElem?_eq_getElem hi, List.getD_eq_getElem?_getD, List.getElem?_eq_getElem hi]; rfl
end Go.Proofs.Ytadpenphiagdmaa
