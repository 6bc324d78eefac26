
/- The integer functions of layer 1 and of its reference, walked. -/
import Derived.Test.YtaakhhnlmldegaaDoorBase
import Derived.Test.YtaakhhnlmldegaaDoorQT
namespace Go.Proofs.YtaakhhnlmldegaaDoor
open Go.RowKit
set_option linter.unusedVariables false
set_option linter.unusedSimpArgs false

/-- The call returned v and touched nothing. -/
def RetQ (v : Value) (w : World) (e : Ending) (w' : World) : Prop := e = .returned v ∧ w = w'
def is32 (a : Int) : Prop := -2147483648 ≤ a ∧ a ≤ 2147483647
def u32 (a : Int) : Int := a % 4294967296
def rv (r : Int) (b : Bool) : Value := .tuple #[.int .i32 r, .bool b]
theorem rv_eq {r r' : Int} {b b' : Bool} (h1 : r = r') (h2 : b = b') : Ending.returned (.tuple #[.int .i32 r, .bool b]) = .returned (rv r' b') := by subst h1 h2; rfl
theorem ri_eq {k : IntKind} {r r' : Int} (h1 : r = r') : Ending.returned (.int k r) = .returned (.int k r') := by subst h1; rfl
theorem rb_eq {r r' : Bool} (h1 : r = r') : Ending.returned (.bool r) = .returned (.bool r') := by subst h1; rfl

def addF (a b : Int) : Value := rv (wrap32 (a + b)) (wrap32 (a + b) != a + b)
def subF (a b : Int) : Value := rv (wrap32 (a - b)) (wrap32 (a - b) != a - b)
def mulF (a b : Int) : Value := rv (wrap32 (a * b)) (wrap32 (a * b) != a * b)
theorem mul_bound {a b : Int} (ha : is32 a) (hb : is32 b) : -4611686018427387904 ≤ a * b ∧ a * b ≤ 4611686018427387904 := by
  obtain ⟨a0, a1⟩ := ha
  obtain ⟨b0, b1⟩ := hb
  have h := Int.natAbs_mul a b
  have h1 : a.natAbs ≤ 2147483648 := by omega
  have h2 : b.natAbs ≤ 2147483648 := by omega
  have h3 := Nat.mul_le_mul h1 h2
  omega
def divF (a b : Int) : Value := if b = 0 ∨ (a = -2147483648 ∧ b = -1) then rv 0 true else rv (a.tdiv b) false
def remF (a b : Int) : Value := if b = 0 then rv 0 true else rv (a.tmod b) false
def xwordF (a b : Int) : Int := if u32 a < u32 b then a else wrap32 (a - 2 * b)
def cwordF (a b : Int) : Value := rv a (decide (b ≤ a) || decide (a < wrap32 (-b)))
end Go.Proofs.YtaakhhnlmldegaaDoor
