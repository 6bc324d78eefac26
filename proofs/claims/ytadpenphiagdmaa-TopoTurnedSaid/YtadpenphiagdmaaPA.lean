/- Plain: the order of the wires, and of the ports of a wire, makes no difference. -/
import Derived.Test.YtadpenphiagdmaaP9
namespace Go.Proofs.Ytadpenphiagdmaa
open Go.RowKit
set_option linter.unusedVariables false
set_option linter.unusedSimpArgs false

def Wire.flip (x : Wire) : Wire := ⟨x.c, x.d, x.a, x.b⟩
/-- The second list has the first one's wires, turned or not, each at its place. -/
def Flips : List Wire → List Wire → Prop
  | [], [] => True
  | x :: r, y :: s => (y = x ∨ y = x.flip) ∧ Flips r s
  | _, _ => False
theorem Flips.len : ∀ {l s : List Wire}, Flips l s → s.length = l.length
  | [], [], _ => rfl
  | _ :: r, _ :: s, h => by simp [Flips.len h.2]
  | [], _ :: _, h => h.elim
  | _ :: _, [], h => h.elim
theorem Flips.of_get : ∀ (l s : List Wire), s.length = l.length → (∀ (i : Nat) (x y : Wire), l[i]? = some x → s[i]? = some y → y = x ∨ y = x.flip) → Flips l s
  | [], [], _, _ => trivial
  | x :: r, y :: s, h, hg => ⟨hg 0 x y rfl rfl, Flips.of_get r s (by simpa using h) fun i a b ha hb => hg (i + 1) a b (by simpa using ha) (by simpa using hb)⟩
  | [], _ :: _, h, _ => by simp at h
  | _ :: _, [], h, _ => by simp at h
theorem Flips.ports : ∀ {l s : List Wire}, Flips l s → (portsOf s).Perm (portsOf l)
  | [], [], _ => List.Perm.refl _
  | x :: r, y :: s, h => by
    have ih := Flips.ports h.2
    have e1 : portsOf (x :: r) = (x.a, x.b) :: (x.c, x.d) :: portsOf r := rfl
    have e2 : portsOf (y :: s) = (y.a, y.b) :: (y.c, y.d) :: portsOf s := rfl
    rw [e1, e2]
    rcases h.1 with rfl | rfl
    · exact (ih.cons _).cons _
    · exact (List.Perm.swap _ _ _).trans ((ih.cons _).cons _)
  | [], _ :: _, h => h.elim
  | _ :: _, [], h => h.elim
theorem Flips.mem : ∀ {l s : List Wire}, Flips l s → ∀ y ∈ s, y ∈ l ∨ y.flip ∈ l
  | [], [], _, y, hy => by cases hy
  | x :: r, z :: s, h, y, hy => by
    rcases List.mem_cons.1 hy with rfl | hy
    · rcases h.1 with rfl | rfl
      · exact .inl (by simp)
      · exact .inr (List.mem_cons.2 (.inl rfl))
    · rcases Flips.mem h.2 y hy with h1 | h1
      · exact .inl (List.mem_cons_of_mem _ h1)
      · exact .inr (List.mem_cons_of_mem _ h1)
  | [], _ :: _, h, _, _ => h.elim
  | _ :: _, [], h, _, _ => h.elim
/-- The same wires in another order, some of them turned. -/
structure Turn (l s : List Wire) : Prop where
  len : s.length = l.length
  ports : (portsOf s).Perm (portsOf l)
  mem : ∀ y ∈ s, y ∈ l ∨ y.flip ∈ l
  back : ∀ y ∈ l, y ∈ s ∨ y.flip ∈ s
theorem Flips.symm : ∀ {l s : List Wire}, Flips l s → Flips s l
  | [], [], _ => trivial
  | x :: r, y :: s, h => ⟨by rcases h.1 with rfl | rfl <;> first | exact .inl rfl | exact .inr rfl, Flips.symm h.2⟩
  | [], _ :: _, h => h.elim
  | _ :: _, [], h => h.elim
theorem Turn.of {l s : List Wire} (h : Flips l.reverse s) : Turn l s := by
  refine ⟨by rw [h.len]; simp, h.ports.trans ?_, fun y hy => by simpa using h.mem y hy, fun y hy => h.symm.mem y (by simpa using hy)⟩
  exact (List.reverse_perm l).flatMap_right _
theorem Turn.symm {l s : List Wire} (h : Turn l s) : Turn s l := ⟨h.len.symm, h.ports.symm, h.back, h.mem⟩
theorem flip_flip (x : Wire) : x.flip.flip = x := rfl
/-- Where no port is used twice the wires alone say which ports are joined. -/
theorem peerL_iff {ws : List Wire} (hd : (portsOf ws).Nodup) (a b : Int) (q : Pt) : peerL ws a b = some q ↔ ∃ x, (x ∈ ws ∨ x.flip ∈ ws) ∧ (x.a, x.b) = (a, b) ∧ (x.c, x.d) = q := by
  constructor
  · intro h
    clear hd
    induction ws with
    | nil => cases h
    | cons y r ih =>
      simp only [peerL] at h
      split at h
      · rename_i hab
        injection h with h
        exact ⟨y, .inl (by simp), by rw [hab.1, hab.2], h⟩
      · split at h
        · rename_i hcd
          injection h with h
          refine ⟨y.flip, .inr (by rw [flip_flip]; simp), ?_, h⟩
          show (y.c, y.d) = _
          rw [hcd.1, hcd.2]
        · obtain ⟨x, h1, h2, h3⟩ := ih h
          exact ⟨x, h1.imp (List.mem_cons_of_mem _) (List.mem_cons_of_mem _), h2, h3⟩
  · rintro ⟨x, h1, h2, rfl⟩
    injection h2 with e1 e2
    subst e1 e2
    rcases h1 with h1 | h1
    · exact peerL_wire hd h1
    · exact peerL_sym hd (peerL_wire hd h1)
theorem Turn.peer {l s : List Wire} (h : Turn l s) (hd : (portsOf l).Nodup) (a b : Int) : peerL s a b = peerL l a b := by
  have hd2 : (portsOf s).Nodup := h.ports.nodup_iff.2 hd
  have key : ∀ q, peerL s a b = some q ↔ peerL l a b = some q := fun q => by
    rw [peerL_iff hd2, peerL_iff hd]
    constructor
    · rintro ⟨x, h1, h2⟩
      refine ⟨x, ?_, h2⟩
      rcases h1 with h1 | h1
      · exact h.mem x h1
      · rcases h.mem _ h1 with h3 | h3
        · exact .inr h3
        · exact .inl (by rw [flip_flip] at h3; exact h3)
    · rintro ⟨x, h1, h2⟩
      refine ⟨x, ?_, h2⟩
      rcases h1 with h1 | h1
      · exact h.back x h1
      · rcases h.back _ h1 with h3 | h3
        · exact .inr h3
        · exact .inl (by rw [flip_flip] at h3; exact h3)
  exact Option.ext key
theorem ordStep_congr {ws ws2 : List Wire} (h : ∀ a b, peerL ws2 a b = peerL ws a b) (n : Int) (l : List Pt) (k : Nat) : ordStep ws2 n l k = ordStep ws n l k := by
  simp only [ordStep, h]
theorem ordNode_congr {ws ws2 : List Wire} (h : ∀ a b, peerL ws2 a b = peerL ws a b) (n : Int) (l : List Pt) : ordNode ws2 n l = ordNode ws n l := by
  have e : ordStep ws2 n = ordStep ws n := funext fun l => funext fun k => ordStep_congr h n l k
  rw [ordNode, ordNode, e]
theorem ordL_congr {ws ws2 : List Wire} (h : ∀ a b, peerL ws2 a b = peerL ws a b) : ∀ (f : Nat) (l : List Pt) (i : Nat), ordL ws2 f l i = ordL ws f l i
  | 0, _, _ => rfl
  | f + 1, l, i => by
    simp only [ordL]
    split
    · rename_i p hp
      rw [ordNode_congr h, ordL_congr h]
    · rfl
theorem Turn.may {l s : List Wire} (h : Turn l s) (N hn hl : Int) : mayB N s hn hl = mayB N l hn hl := by
  have hp : portsOk N ((hn, hl) :: portsOf s) = portsOk N ((hn, hl) :: portsOf l) := by
    rw [Bool.eq_iff_iff, portsOk_iff, portsOk_iff]
    have hc := h.ports.cons (hn, hl)
    exact ⟨fun ⟨h1, h2⟩ => ⟨fun p hp => h1 p (hc.mem_iff.2 hp), hc.nodup_iff.1 h2⟩, fun ⟨h1, h2⟩ => ⟨fun p hp => h1 p (hc.mem_iff.1 hp), hc.nodup_iff.2 h2⟩⟩
  have hdif : diffAll s = diffAll l := by
    rw [Bool.eq_iff_iff]
    simp only [diffAll, List.all_eq_true, bne_iff_ne, ne_eq]
    constructor
    · intro h1 x hx
      rcases h.back x hx with h2 | h2
      · exact h1 x h2
      · have := h1 _ h2; exact fun e => this e.symm
    · intro h1 x hx
      rcases h.mem x hx with h2 | h2
      · exact h1 x h2
      · have := h1 _ h2; exact fun e => this e.symm
  cases hb : portsOk N ((hn, hl) :: portsOf l)
  · simp only [mayB, hp, hb, Bool.and_false, Bool.false_and]
  · have hd : (portsOf l).Nodup := by
      have := ((portsOk_iff N _).1 hb).2
      rw [List.nodup_cons] at this
      exact this.2
    have ho : orderOf s hn hl = orderOf l hn hl := ordL_congr (h.peer hd) _ _ _
    simp only [mayB, hp, hdif, ho, h.len]
theorem Turn.tree {l s : List Wire} (h : Turn l s) (N hn hl : Int) : rTreeR N s hn hl = rTreeR N l hn hl := by
  rw [rTreeR, rTreeR, h.may]
  cases hm : mayB N l hn hl
  · rfl
  · have hd := may_nodup hm
    have ho : orderOf s hn hl = orderOf l hn hl := ordL_congr (h.peer hd) _ _ _
    have hu : upOf s hn hl = upOf l hn hl := funext fun x => by rw [upOf, upOf, ho]
    simp only [rtreeOf, hu]
theorem Turn.children {l s : List Wire} (h : Turn l s) (N hn hl x : Int) : rChildrenR N s hn hl x = rChildrenR N l hn hl x := by
  rw [rChildrenR, rChildrenR, h.may]
  cases hm : mayB N l hn hl
  · rfl
  · have hd := may_nodup hm
    have ho : orderOf s hn hl = orderOf l hn hl := ordL_congr (h.peer hd) _ _ _
    have hu : upOf s hn hl = upOf l hn hl := funext fun x => by rw [upOf, upOf, ho]
    have hc : childB s hn hl x = childB l hn hl x := funext fun k => by simp only [childB, h.peer hd, hu]
    simp only [rchildren, hc]
theorem Turn.peerR {l s : List Wire} (h : Turn l s) (N hn hl a b : Int) : rpeerOf N s hn hl a b = rpeerOf N l hn hl a b := by
  rw [rpeerOf, rpeerOf, h.may]
  cases hm : mayB N l hn hl
  · rfl
  · simp only [if_true]
    exact h.peer (may_nodup hm) a b

/-- The wires as the law turns them: from the last to the first, those whose bit is 1 the other way round. -/
def turnAt (bits : Nat → Bool) (ws : List Wire) (i : Nat) : Wire := if bits (ws.length - 1 - i) then (ws.getD (ws.length - 1 - i) ⟨0, 0, 0, 0⟩).flip else ws.getD (ws.length - 1 - i) ⟨0, 0, 0, 0⟩
def turned (bits : Nat → Bool) (ws : List Wire) : List Wire := (List.range ws.length).map (turnAt bits ws)
theorem turned_len (bits : Nat → Bool) (ws : List Wire) : (turned bits ws).length = ws.length := by simp [turned]
theorem turned_get {bits : Nat → Bool} {ws : List Wire} {i : Nat} (h : i < ws.length) : (turned bits ws)[i]? = some (turnAt bits ws i) := by
  rw [turned, List.getElem?_map, List.getElem?_range h]; rfl
theorem turned_turn (bits : Nat → Bool) (ws : List Wire) : Turn ws (turned bits ws) := by
  refine Turn.of (Flips.of_get _ _ (by rw [turned_len]; simp) fun i x y hx hy => ?_)
  have hi := (List.getElem?_eq_some_iff.1 hy).1
  rw [turned_len] at hi
  rw [turned_get hi] at hy
  injection hy with hy
  rw [List.getElem?_reverse hi] at hx
  rw [← hy, turnAt, List.getD_eq_getElem?_getD, hx]
  split
  · exact .inr rfl
  · exact .inl rfl
end Go.Proofs.Ytadpenphiagdmaa
