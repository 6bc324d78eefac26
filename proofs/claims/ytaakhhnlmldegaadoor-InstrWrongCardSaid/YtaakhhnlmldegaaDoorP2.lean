/- The plain law of texts, second part: what Read has to say. -/
import Derived.Test.YtaakhhnlmldegaaDoorP1
namespace Go.Proofs.YtaakhhnlmldegaaDoor
open Go.RowKit
set_option linter.unusedVariables false
set_option linter.unusedSimpArgs false

open Classical in
/-- The answer of Read. -/
noncomputable def readF (l : List UInt8) : Int × Int := if h : ∃ v g, is32 v ∧ l = textL v g then (h.choose, 0) else (0, 5)
theorem readF_text {v : Int} {g : Bool} (hv : is32 v) : readF (textL v g) = (v, 0) := by
  have h : ∃ v' g', is32 v' ∧ textL v g = textL v' g' := ⟨v, g, hv, rfl⟩
  rw [readF, dif_pos h]
  obtain ⟨g', h1, h2⟩ := h.choose_spec
  exact congrArg (fun x => (x, (0 : Int))) (textL_inj hv h1 h2).1.symm
theorem readF_no {l : List UInt8} (h : ∀ v g, is32 v → l ≠ textL v g) : readF l = (0, 5) := by
  rw [readF, dif_neg]
  rintro ⟨v, g, h1, h2⟩
  exact h v g h1 h2
theorem textL_len {v : Int} {g : Bool} (hv : is32 v) : 1 ≤ (textL v g).length ∧ (textL v g).length ≤ 11 := by
  cases g
  · have h := itoa_len v hv
    obtain ⟨c, r, e, -⟩ := itoa_head v
    simp only [textL, Bool.false_eq_true, if_false]
    exact ⟨by rw [e]; simp, h⟩
  · simp [textL, digL_length]
theorem textL_hex {v : Int} {g : Bool} {c : UInt8} {r : List UInt8} (h : c :: r = textL v g) : g = (c == 35) := by
  cases g
  · obtain ⟨c', r', e, h1, -⟩ := itoa_head v
    have e2 : c :: r = c' :: r' := by rw [h]; exact e
    injection e2 with e2 _
    subst e2
    simp only [Bool.false_eq, beq_eq_false_iff_ne, ne_eq]
    rintro rfl; exact h1 rfl
  · have e2 : c :: r = 35 :: digL 16 8 (u32 v).toNat := h
    injection e2 with e2 _
    subst e2; rfl

/-! The program's reading. -/
theorem readF_hex {r : List UInt8} (h : r.all isHexB = true) (h8 : r.length = 8) : readF (35 :: r) = (wrap32 (valL 16 r % 4294967296 : Nat), 0) := by
  rw [(hex_back r h h8).1]
  exact readF_text (wrap32_is _)
theorem readF_hexno {r : List UInt8} (h : r.all isHexB = false ∨ r.length ≠ 8) : readF (35 :: r) = (0, 5) :=
  readF_no fun v g hv e => by
    have hg := textL_hex e
    obtain rfl : g = true := by rw [hg]; rfl
    have e2 : 35 :: r = 35 :: digL 16 8 (u32 v).toNat := e
    injection e2 with _ e2
    subst e2
    rcases h with h | h
    · rw [hex_all] at h; cases h
    · exact h (digL_length _ _ _)
theorem readF_decno {l : List UInt8} (h : ∀ c r, l = c :: r → c ≠ 35) (hp : ∀ v, is32 v → Lib.parseIntB 32 l = .ok v → Lib.itoa v ≠ l) : readF l = (0, 5) :=
  readF_no fun v g hv e => by
    cases g
    · have e2 : l = Lib.itoa v := e
      exact hp v hv (by rw [e2]; exact parse_itoa v hv) e2.symm
    · exact h 35 _ e rfl
theorem readF_dec {v : Int} (hv : is32 v) : readF (Lib.itoa v) = (v, 0) := readF_text (g := false) hv

/-! The reference's reading. -/
/-- The number that the reference tries. -/
def tryV : List UInt8 → Int
  | [] => 0
  | c :: r => if c = 35 then valR 16 r else if c = 45 then -(valR 10 r : Int) else valR 10 (c :: r)
theorem valR_dec (u : Nat) : valR 10 (Lib.decDigits u) = u := by
  obtain ⟨N, g1, g2, g3⟩ := dec_N u
  rw [g3, valR_digL 10 (by decide) (by decide) _ _ g2]
theorem tryV_text (v : Int) (g : Bool) (hv : is32 v) : wrap32 (tryV (textL v g)) = v := by
  have hw : wrap32 v = v := by obtain ⟨a, b⟩ := hv; unfold wrap32; omega
  cases g
  · by_cases h : v < 0
    · have e : textL v false = 45 :: Lib.decDigits v.natAbs := itoa_neg' h
      rw [e, tryV, if_neg (by decide), if_pos rfl, valR_dec]
      have : -((v.natAbs : Nat) : Int) = v := by omega
      rw [this, hw]
    · obtain ⟨c, r, e1, h1, h2⟩ := dec_head v.toNat
      have e : textL v false = c :: r := (itoa_pos (by omega)).trans e1
      have n1 : c ≠ 35 := by rintro rfl; revert h1; decide
      have n2 : c ≠ 45 := by rintro rfl; revert h1; decide
      rw [e, tryV, if_neg n1, if_neg n2, ← e1, valR_dec]
      have : ((v.toNat : Nat) : Int) = v := by omega
      rw [this, hw]
  · have e : textL v true = 35 :: digL 16 8 (u32 v).toNat := rfl
    rw [e, tryV, if_pos rfl, valR_digL 16 (by decide) (by decide) 8 _ (u32_lt16 v)]
    obtain ⟨a, b⟩ := hv
    unfold u32 wrap32; omega
theorem readF_try_yes {c : UInt8} {r : List UInt8} (h : textL (wrap32 (tryV (c :: r))) (c == 35) = c :: r) : readF (c :: r) = (wrap32 (tryV (c :: r)), 0) := by
  have h2 := readF_text (g := c == 35) (wrap32_is (tryV (c :: r)))
  rw [h] at h2; exact h2
theorem readF_try_no {c : UInt8} {r : List UInt8} (h : textL (wrap32 (tryV (c :: r))) (c == 35) ≠ c :: r) : readF (c :: r) = (0, 5) :=
  readF_no fun v g hv e => h (by
    have hg := textL_hex e
    have hv2 : wrap32 (tryV (c :: r)) = v := by rw [e]; exact tryV_text v g hv
    rw [hv2, ← hg, ← e])
theorem readF_len {l : List UInt8} (h : l.length < 1 ∨ 11 < l.length) : readF l = (0, 5) :=
  readF_no fun v g hv e => by
    have := textL_len (g := g) hv
    rw [e] at h; omega
end Go.Proofs.YtaakhhnlmldegaaDoor
