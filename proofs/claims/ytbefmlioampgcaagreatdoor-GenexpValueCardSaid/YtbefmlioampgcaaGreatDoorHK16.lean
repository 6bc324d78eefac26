/- Texts that belong together, joined: what each one holds is told ahead of it. -/
import Derived.Test.YtbefmlioampgcaaGreatDoorHK3
import Derived.Test.YtbefmlioampgcaaGreatDoorHA4
import Derived.Laws.BitsLemmas
set_option linter.unusedVariables false
set_option linter.unusedSimpArgs false
/- The rounds that find the addresses, in plain words. -/
namespace Go.Proofs.YtbefmlioampgcaaGreatDoor

/-- A round's lengths: no less than before, and no less than needed. -/
def upL (os : List Opd) (l : List Nat) : List Nat := List.zipWith max l (needL os l)
/-- .. of which the first i are found. -/
def mixL (u l : List Nat) (i : Nat) : List Nat := u.take i ++ l.drop i
def adrs (l : List Nat) (n : Nat) : List Nat := (List.range (n + 1)).map (adr l)
/-- No length has grown so far. -/
def stillB (u l : List Nat) (i : Nat) : Bool := decide (u.take i = l.take i)
def zeros (n : Nat) : List Nat := List.replicate n 0
end Go.Proofs.YtbefmlioampgcaaGreatDoor

/- operand, walked; the encoding of an instruction, walked. -/
namespace Go.Proofs.YtbefmlioampgcaaGreatDoor
open Go.RowKit Go.Maps Go.WideMaps

def ncells (l : List Nat) : List Value := l.map fun (x : Nat) => .int .i64 (x : Int)
def bcells (l : List UInt8) : List Value := l.map fun (x : UInt8) => .int .u8 (x.toNat : Int)
/-- What can be encoded. -/
def codeB (fn : Nat) : Bool := decide (fn ≤ 15) && !(fn == 2) && !(fn == 6)
/-- A call that leaves a row of its own. -/
def RetRow (T size n : Nat) (xs : List Value) (w : World) (e : Ending) (w' : World) : Prop :=
  ∃ v, e = .returned v ∧ w'.ownsRow w.heap.size T size v n xs ∧ Below w.heap.size w w'
theorem RetRow.mk {T size n : Nat} {xs : List Value} {w w' : World} {v : Value} {B : Nat} (h : w'.ownsRow B T size v n xs) (hB : w.heap.size ≤ B) (hb : Below w.heap.size w w') : RetRow T size n xs w (.returned v) w' := by
  refine ⟨v, rfl, ⟨h.1, ?_⟩, hb⟩
  rcases h.2 with hn | ⟨g, cap, cur, e1, hb', rest⟩
  · exact .inl hn
  · exact .inr ⟨g, cap, cur, e1, by omega, rest⟩
end Go.Proofs.YtbefmlioampgcaaGreatDoor

/- Len and Put of an instruction, and a line's encoding, walked. -/
namespace Go.Proofs.YtbefmlioampgcaaGreatDoor
open Go.RowKit Go.Maps Go.WideMaps

theorem _root_.Go.World.ownsRow.weak {w : World} {base base' e size n : Nat} {v : Value} {xs : List Value} (h : w.ownsRow base e size v n xs) (hb : base' ≤ base) : w.ownsRow base' e size v n xs := by
  refine ⟨h.1, ?_⟩
  rcases h.2 with hn | ⟨g, cap, cur, e1, hb', rest⟩
  · exact .inl hn
  · exact .inr ⟨g, cap, cur, e1, by omega, rest⟩
theorem RetRow.cell {T size n : Nat} {xs : List Value} {w : World} {e : Ending} {w' : World} (h : RetRow T size n xs w e w') : ∃ A c, e = .returned (.slice A n c) ∧ w'.ownsRow w.heap.size T size (.slice A n c) n xs ∧ Below w.heap.size w w' ∧ n ≤ c := by
  obtain ⟨v, rfl, ho, hb⟩ := h
  rcases ho.2 with ⟨rfl, hz⟩ | ⟨g, cap, cur, rfl, hrest⟩
  · have hn : n = 0 := by rcases ho.2 with ⟨_, h⟩ | ⟨g, cap, cur, h, _⟩
                          · exact h
                          · cases h
    subst hn
    exact ⟨none, 0, rfl, ho, hb, Nat.le_refl _⟩
  · exact ⟨_, cap, rfl, ho, hb, hrest.2.2.1⟩
/-- What Put leaves of a valid instruction. -/
def RetP (fn : Nat) (v : Int) (w : World) (e : Ending) (w' : World) : Prop :=
  ∃ A c, e = .returned (.tuple #[.slice A (lenV v) c, .int .i64 0]) ∧ w'.ownsRow w.heap.size 5 1 (.slice A (lenV v) c) (lenV v) (bcells (encI fn v)) ∧ Below w.heap.size w w' ∧ lenV v ≤ c
end Go.Proofs.YtbefmlioampgcaaGreatDoor
