/- Texts that belong together, joined: what each one holds is told ahead of it. -/
import Derived.Test.YtbefmlioampgcaaGreatDoorHK1
import Derived.Deep.RegionHeld
set_option linter.unusedVariables false
set_option linter.unusedSimpArgs false
/- A region that draws its order: a list of its operations that only read is taken first, in one walk; what is left goes in whatever order. -/
namespace Go.Proofs.YtbefmlioampgcaaGreatDoor
open Go.RowKit
set_option linter.unusedVariables false
set_option linter.unusedSimpArgs false

section
variable {P : Program} {ops : Array Oper} {Q : Exit → Act → World → Prop} {S : World → Prop}

/-- The operations of T, one after the other, each yields in every world of S (or is not wanted); then K. -/
def takeQ (P : Program) (ops : Array Oper) (S : World → Prop) (K : Act → Prop) : List Oper → Act → Prop
  | [], a => K a
  | o :: T, a => ∃ v, YieldsIf P ops S o v a ∧ takeQ P ops S K T (a.put o.dst v)
theorem takeQ_cons {K : Act → Prop} {o : Oper} {T : List Oper} {a : Act} {v : Value} (hw : Region.wanted o (yielded ops a.tmps) = true) (hy : ∀ w, S w → (execOp a.eval o).run P w = .ok (.value v) w) (h : takeQ P ops S K T (a.put o.dst v)) : takeQ P ops S K (o :: T) a :=
  ⟨v, .inl ⟨hw, hy⟩, h⟩
/-- A value that hangs on a case. -/
theorem takeQ_any {K : Act → Prop} {o : Oper} {T : List Oper} {a : Act} (v : Value) (hy : YieldsIf P ops S o v a) (h : takeQ P ops S K T (a.put o.dst v)) : takeQ P ops S K (o :: T) a :=
  ⟨v, hy, h⟩
theorem takeQ_nil {K : Act → Prop} {a : Act} (h : K a) : takeQ P ops S K [] a := h
/-- Each may come up when its turn is, and no other touches what it reads or writes. -/
def takesB (ops : Array Oper) : List Nat → Array Bool → Bool
  | [], _ => true
  | i :: T, listed => Region.free .any ops listed i && (Region.ready .any ops listed).contains i && takesB ops T (listed.setIfInBounds i true)
def listAll : List Nat → Array Bool → Array Bool
  | [], l => l
  | i :: T, l => listAll T (l.setIfInBounds i true)
theorem wpAnyH_takes (hs : Region.noSelect ops = true) (hQ : ∀ c a d v w, Q (.panic c) (a.put d v) w → Q (.panic c) a w) {w : World} (hS : S w) : ∀ (T : List Nat) (fuel : Nat) (listed : Array Bool) (a : Act), takesB ops T listed = true →
    takeQ P ops S (fun a' => wpAnyH P .any ops Q S fuel (listAll T listed) a' w) (T.filterMap (ops[·]?)) a → wpAnyH P .any ops Q S (fuel + T.length) listed a w
  | [], fuel, listed, a, _, h => h
  | i :: T, fuel, listed, a, hB, h => by
    simp only [takesB, Bool.and_eq_true] at hB
    obtain ⟨⟨hf, hr⟩, hB⟩ := hB
    obtain ⟨-, o, ho, -⟩ := mem_ready.1 (List.contains_iff_mem.1 hr)
    rw [List.filterMap_cons, ho] at h
    obtain ⟨v, hy, h2⟩ := h
    rw [List.length_cons, ← Nat.add_assoc]
    exact wpAnyH_take ho hs hf hr (fun c a' w' h' => hQ c a' _ _ w' h') hy hS (wpAnyH_takes hs hQ hS T fuel (listed.setIfInBounds i true) (a.put o.dst v) hB h2)
/-- **The beginning.** -/
theorem wp_region_takes {id : Nat} {a : Act} {w : World} (S : World → Prop) (T : List Nat) (fuel : Nat) {listed : Array Bool} (hm : P.follows .mixedOrders = true) (hs : Region.noSelect ops = true) (hT : takesB ops T (Array.replicate ops.size false) = true)
    (hl : listAll T (Array.replicate ops.size false) = listed) (hfu : ops.size = fuel + T.length) (hQ : ∀ c a d v w, Q (.panic c) (a.put d v) w → Q (.panic c) a w) (hS : S w.drew)
    (h : ∀ R : Act → Prop, (∀ a', wpAnyH P .any ops Q S fuel listed a' w.drew → R a') → takeQ P ops S R (T.filterMap (ops[·]?)) a) : (Code.region id ops true).wp P Q a w := by
  refine wp_region_held (S := S) hm ?_
  subst hl
  have h2 := wpAnyH_takes (Q := Q) hs hQ hS T fuel (Array.replicate ops.size false) a hT (h _ fun _ h => h)
  rw [← hfu] at h2
  exact h2
end
end Go.Proofs.YtbefmlioampgcaaGreatDoor
