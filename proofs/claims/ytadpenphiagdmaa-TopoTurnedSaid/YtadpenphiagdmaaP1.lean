/- The plain words of the reference of layer 35: peers, the order in which nodes are found. -/
import Derived.Test.YtadpenphiagdmaaW2
namespace Go.Proofs.Ytadpenphiagdmaa
open Go.RowKit
set_option linter.unusedVariables false
set_option linter.unusedSimpArgs false

/-- One link of a node that is visited. -/
def ordStep (ws : List Wire) (n : Int) (l : List Pt) (k : Nat) : List Pt :=
  match peerL ws n k with
  | some q => if l.all (fun p => p.1 != q.1) then l ++ [q] else l
  | none => l
def ordNode (ws : List Wire) (n : Int) (l : List Pt) : List Pt := (List.range 4).foldl (ordStep ws n) l
/-- The nodes that come of those from number i on. -/
def ordL (ws : List Wire) : Nat → List Pt → Nat → List Pt
  | 0, l, _ => l
  | f + 1, l, i => match l[i]? with
    | some p => ordL ws f (ordNode ws p.1 l) (i + 1)
    | none => l
def orderOf (ws : List Wire) (hn hl : Int) : List Pt := ordL ws 9 [(hn, hl)] 0

structure NetOk (N : Int) (ws : List Wire) (hn : Int) : Prop where
  n1 : 1 ≤ N
  n8 : N ≤ 8
  h0 : 0 ≤ hn
  h1 : hn < N
  w : ∀ x ∈ ws, (0 ≤ x.a ∧ x.a < N) ∧ 0 ≤ x.c ∧ x.c < N

theorem peerL_ok {N hn : Int} {ws : List Wire} (h : NetOk N ws hn) {a b : Int} {q : Pt} (hp : peerL ws a b = some q) : 0 ≤ q.1 ∧ q.1 < N := by
  have hw := h.w
  clear h
  induction ws with
  | nil => cases hp
  | cons x r ih =>
    have hx := hw x (by simp)
    simp only [peerL] at hp
    split at hp
    · injection hp with hp; subst hp; exact hx.2
    · split at hp
      · injection hp with hp; subst hp; exact hx.1
      · exact ih hp (fun y hy => hw y (by simp [hy]))

/-- A list of found ports: nodes different, all in range. -/
structure Found (N : Int) (l : List Pt) : Prop where
  nd : (l.map (·.1)).Nodup
  rg : ∀ p ∈ l, 0 ≤ p.1 ∧ p.1 < N

theorem nodup_short : ∀ (n : Nat) (l : List Int), l.Nodup → (∀ x ∈ l, 0 ≤ x ∧ x < n) → l.length ≤ n
  | 0, l, _, h => by
    cases l with
    | nil => simp
    | cons x r => have := h x (by simp); omega
  | n + 1, l, hd, h => by
    have h1 : (l.erase (n : Int)).length ≤ n := by
      refine nodup_short n _ (hd.erase _) (fun x hx => ?_)
      have := (List.Nodup.mem_erase_iff hd).1 hx
      have h2 := h x this.2
      have : x ≠ n := this.1
      omega
    have h2 := List.length_erase (a := (n : Int)) (l := l)
    split at h2 <;> omega

theorem Found.short {N : Int} {l : List Pt} (h : Found N l) (h8 : N ≤ 8) : l.length ≤ 8 := by
  have := nodup_short 8 (l.map (·.1)) h.nd (fun x hx => by
    obtain ⟨p, hp, rfl⟩ := List.mem_map.1 hx
    have := h.rg p hp
    omega)
  simpa using this

theorem Found.step {N hn n : Int} {ws : List Wire} {l : List Pt} (h : Found N l) (hw : NetOk N ws hn) (k : Nat) : Found N (ordStep ws n l k) := by
  unfold ordStep
  split
  · rename_i q hq
    split
    · rename_i hall
      refine ⟨?_, fun p hp => ?_⟩
      · rw [List.map_append, List.nodup_append]
        refine ⟨h.nd, by simp, fun a ha b hb => ?_⟩
        simp at hb ha
        subst hb
        obtain ⟨y, hy⟩ := ha
        have := (List.all_eq_true.1 hall) _ hy
        simpa using this
      · rcases List.mem_append.1 hp with hp | hp
        · exact h.rg p hp
        · simp at hp; subst hp; exact peerL_ok hw hq
    · exact h
  · exact h

theorem ordStep_ext (ws : List Wire) (n : Int) (l : List Pt) (k : Nat) : ∃ r, ordStep ws n l k = l ++ r := by
  unfold ordStep
  split
  · split
    · exact ⟨_, rfl⟩
    · exact ⟨[], by simp⟩
  · exact ⟨[], by simp⟩

/-- The links from number k on. -/
def ordFrom (ws : List Wire) (n : Int) (l : List Pt) (k : Nat) : List Pt := ((List.range 4).drop k).foldl (ordStep ws n) l
theorem ordFrom_zero (ws : List Wire) (n : Int) (l : List Pt) : ordFrom ws n l 0 = ordNode ws n l := rfl
theorem ordFrom_four (ws : List Wire) (n : Int) (l : List Pt) : ordFrom ws n l 4 = l := rfl
theorem ordFrom_step (ws : List Wire) (n : Int) (l : List Pt) (k : Nat) (hk : k < 4) : ordFrom ws n l k = ordFrom ws n (ordStep ws n l k) (k + 1) := by
  match k, hk with
  | 0, _ => rfl
  | 1, _ => rfl
  | 2, _ => rfl
  | 3, _ => rfl

theorem ordL_step {ws : List Wire} {f : Nat} {l : List Pt} {i : Nat} {p : Pt} (hp : l[i]? = some p) : ordL ws (f + 1) l i = ordL ws f (ordNode ws p.1 l) (i + 1) := by
  simp [ordL, hp]
theorem ordL_end {ws : List Wire} {f : Nat} {l : List Pt} {i : Nat} (hp : l.length ≤ i) : ordL ws f l i = l := by
  cases f with
  | zero => rfl
  | succ f => simp [ordL, List.getElem?_eq_none hp]

theorem Found.node {N hn n : Int} {ws : List Wire} {l : List Pt} (h : Found N l) (hw : NetOk N ws hn) : Found N (ordNode ws n l) :=
  ((((h.step hw 0).step hw 1).step hw 2).step hw 3)
theorem ordL_found {N hn : Int} {ws : List Wire} (hw : NetOk N ws hn) : ∀ (f : Nat) (l : List Pt) (i : Nat), Found N l → Found N (ordL ws f l i)
  | 0, _, _, h => h
  | f + 1, l, i, h => by
    simp only [ordL]
    split
    · exact ordL_found hw f _ _ (h.node hw)
    · exact h
theorem order_found {N hn : Int} {ws : List Wire} (hw : NetOk N ws hn) (hl : Int) : Found N (orderOf ws hn hl) :=
  ordL_found hw _ _ _ ⟨by simp, fun p hp => by simp at hp; subst hp; exact ⟨hw.h0, hw.h1⟩⟩
def fresh (q : Option Pt) (l : List Pt) : Bool := match q with
  | some q => l.all (fun p => p.1 != q.1)
  | none => false
theorem fresh_nil (q : Option Pt) : fresh q [] = q.isSome := by cases q <;> rfl
theorem fresh_false {q : Option Pt} {l : List Pt} {t : Nat} (h : fresh q (l.take t) = false) : fresh q (l.take (t + 1)) = false := by
  cases q with
  | none => rfl
  | some q =>
    simp only [fresh] at h ⊢
    rcases Nat.lt_or_ge t l.length with ht | ht
    · rw [List.take_succ_eq_append_getElem ht, List.all_append, h]; rfl
    · rwa [List.take_of_length_le (by omega), ← List.take_of_length_le ht]
theorem fresh_true {q : Option Pt} {l : List Pt} {t : Nat} {p : Pt} (hp : l[t]? = some p) (h : fresh q (l.take t) = true) : fresh q (l.take (t + 1)) = (p.1 != (q.getD (0, 0)).1) := by
  obtain ⟨ht, rfl⟩ := List.getElem?_eq_some_iff.1 hp
  cases q with
  | none => cases h
  | some q =>
    simp only [fresh] at h ⊢
    rw [List.take_succ_eq_append_getElem ht, List.all_append, h]; simp
theorem ordStep_fresh (ws : List Wire) (n : Int) (l : List Pt) (k : Nat) : ordStep ws n l k = if fresh (peerL ws n k) l then l ++ [(peerL ws n k).getD (0, 0)] else l := by
  unfold ordStep fresh
  cases peerL ws n k <;> simp
end Go.Proofs.Ytadpenphiagdmaa
