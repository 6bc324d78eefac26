/- Texts that belong together, joined: what each one holds is told ahead of it. -/
import Derived.Test.YtbefmlioampgcaaGreatDoorHK1
set_option linter.unusedVariables false
set_option linter.unusedSimpArgs false
/- A valid expression, walked in the program: its parts, one after the other; valid itself. -/
namespace Go.Proofs.YtbefmlioampgcaaGreatDoor
open Go.RowKit
set_option linter.unusedSimpArgs false
set_option linter.unusedVariables false

theorem roomL_le_of : ∀ {l : List KE} {inside left r : Nat}, (∀ e ∈ l, ∀ (a r : Nat), roomE inside a e = some r → r ≤ a) → roomL inside left l = some r → r ≤ left
  | [], inside, left, r, _, h => by rw [roomL] at h; cases h; exact Nat.le_refl _
  | x :: l, inside, left, r, hall, h => by
    rw [roomL] at h
    cases hx : roomE inside left x with
    | none => rw [hx] at h; cases h
    | some y =>
      rw [hx] at h
      have h1 := hall x (by simp) _ _ hx
      have h2 := roomL_le_of (l := l) (fun e he => hall e (by simp [he])) h
      omega
theorem roomE_le (e : KE) : ∀ (inside left r : Nat), roomE inside left e = some r → r ≤ left := by
  induction e using KE.ind with
  | h e ih =>
    intro inside left r h
    rw [roomE_eq] at h
    split at h
    · cases h
    · have := roomL_le_of (fun x hx a r => ih x hx (inside + 1) a r) h
      omega
theorem roomL_append : ∀ (a b : List KE) (inside left : Nat), roomL inside left (a ++ b) = match roomL inside left a with
    | none => none
    | some r => roomL inside r b
  | [], b, inside, left => by rw [roomL]; rfl
  | x :: a, b, inside, left => by
    rw [List.cons_append, roomL, roomL]
    cases roomE inside left x with
    | none => rfl
    | some y => exact roomL_append a b inside y
theorem roomL_snoc {l : List KE} {k inside left r : Nat} {x : KE} (h : l[k]? = some x) (hr : roomL inside left (l.take k) = some r) : roomL inside left (l.take (k + 1)) = roomE inside r x := by
  rw [List.take_add_one, h, Option.toList_some, roomL_append, hr]
  simp only
  rw [roomL]
  cases roomE inside r x with
  | none => rfl
  | some y => simp only; rw [roomL]
theorem roomL_fail {l : List KE} {k inside left r : Nat} {x : KE} (h : l[k]? = some x) (hr : roomL inside left (l.take k) = some r) (hx : roomE inside r x = none) : roomL inside left l = none := by
  have h1 : roomL inside left (l.take (k + 1)) = none := by rw [roomL_snoc h hr, hx]
  have h2 := roomL_append (l.take (k + 1)) (l.drop (k + 1)) inside left
  rw [List.take_append_drop, h1] at h2
  exact h2
/-- An expression of a row: its cells, one by one. -/
theorem kes_six {w : World} {B : Nat} {A : Option Addr} {l : List KE} (h : kesIn w B A l) {k : Nat} (hk : k < l.length) :
    ∃ b off x, A = some ⟨b, off, none⟩ ∧ b < B ∧ l[k]? = some x ∧ x.In w B ∧ w.cell? ⟨b, off + k * 6, none⟩ = some (.int .u8 x.kind) ∧ w.cell? ⟨b, off + k * 6 + 1, none⟩ = some (.int .u8 x.oper) ∧ w.cell? ⟨b, off + k * 6 + 2, none⟩ = some (.int .u8 x.tk) ∧
      w.cell? ⟨b, off + k * 6 + 3, none⟩ = some (.int .i32 x.n) ∧ w.cell? ⟨b, off + k * 6 + 4, none⟩ = some (.int .i64 x.v) ∧ w.cell? ⟨b, off + k * 6 + 5, none⟩ = some (.slice x.A x.l.length x.c) := by
  obtain ⟨b, off, x, h1, h2, h3, h4, hc⟩ := kes_at h hk
  exact ⟨b, off, x, h1, h2, h3, h4, hc 0 _ rfl, hc 1 _ rfl, hc 2 _ rfl, hc 3 _ rfl, hc 4 _ rfl, hc 5 _ rfl⟩
/-- What IndexFunc returns. -/
def RetIdx (R : Option Nat) (bl : Nat) (w : World) (e : Ending) (w' : World) : Prop :=
  UpdB bl w w' ∧ ∃ (i z : Int), e = .returned (.int .i64 i) ∧ Blk w' bl 3 #[.int .i64 z] ∧ (R = none ∧ 0 ≤ i ∨ ∃ r : Nat, R = some r ∧ i = -1 ∧ z = r)
def LeftAt (l : List KE) (deep left bl k : Nat) (w : World) : Prop := ∃ r : Nat, r ≤ 256 ∧ roomL (deep + 1) left (l.take k) = some r ∧ Blk w bl 3 #[.int .i64 r]
end Go.Proofs.YtbefmlioampgcaaGreatDoor
