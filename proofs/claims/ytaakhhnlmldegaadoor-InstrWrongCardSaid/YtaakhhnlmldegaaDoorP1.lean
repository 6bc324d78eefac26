/- The plain law of texts: Read and Text. -/
import Derived.Test.YtaakhhnlmldegaaDoorW8
import Derived.Lib.ParseIntBCases
namespace Go.Proofs.YtaakhhnlmldegaaDoor
open Go.RowKit
set_option linter.unusedVariables false
set_option linter.unusedSimpArgs false

theorem digL_snoc (b N t : Nat) : digL b (N + 1) t = digL b N (t / b) ++ [dig (t % b)] := by
  induction N with
  | zero => simp [digL]
  | succ N ih =>
    show dig (t / b ^ (N + 1) % b) :: digL b (N + 1) t = dig (t / b / b ^ N % b) :: digL b N (t / b) ++ [dig (t % b)]
    rw [ih, Nat.pow_succ, Nat.mul_comm, ← Nat.div_div_eq_div_mul]
    rfl
theorem dig_dec (d : Nat) (h : d < 10) : dig d = UInt8.ofNat (48 + d) := by rw [dig, if_pos h]

/-- The decimal digits, and how many they are. -/
theorem dec_N (u : Nat) : ∃ N, (N = 0 ∨ 10 ^ N ≤ u) ∧ u < 10 ^ (N + 1) ∧ Lib.decDigits u = digL 10 (N + 1) u := by
  induction u using Nat.strongRecOn with
  | _ u ih =>
    by_cases h : u < 10
    · refine ⟨0, .inl rfl, by simpa using h, ?_⟩
      rw [Lib.decDigits_one h]
      simp [digL, Nat.mod_eq_of_lt h, dig_dec u h]
    · obtain ⟨N, h1, h2, h3⟩ := ih (u / 10) (by omega)
      refine ⟨N + 1, .inr ?_, ?_, ?_⟩
      · rw [Nat.pow_succ]
        rcases h1 with rfl | h1
        · simp; omega
        · omega
      · rw [Nat.pow_succ]; omega
      · rw [Lib.decDigits, dif_neg h, h3, digL_snoc 10 (N + 1) u, dig_dec _ (Nat.mod_lt _ (by decide))]
theorem dec_unique {u N : Nat} (h1 : N = 0 ∨ 10 ^ N ≤ u) (h2 : u < 10 ^ (N + 1)) : Lib.decDigits u = digL 10 (N + 1) u := by
  obtain ⟨M, g1, g2, g3⟩ := dec_N u
  have : M = N := by
    rcases Nat.lt_trichotomy M N with h | h | h
    · rcases h1 with rfl | h1
      · omega
      · have : 10 ^ (M + 1) ≤ 10 ^ N := Nat.pow_le_pow_right (by decide) (by omega)
        omega
    · exact h
    · rcases g1 with rfl | g1
      · omega
      · have : 10 ^ (N + 1) ≤ 10 ^ M := Nat.pow_le_pow_right (by decide) (by omega)
        omega
  rw [g3, this]

theorem val_digL (b : Nat) (hb : 0 < b) (hb16 : b ≤ 16) (N t : Nat) : ∀ acc, (digL b N t).foldl (fun t c => stepR b c t b) acc = acc * b ^ N + t % b ^ N := by
  induction N with
  | zero => intro acc; simp [digL, Nat.mod_one]
  | succ N ih =>
    intro acc
    have hd := Nat.mod_lt (t / b ^ N) hb
    rw [digL, List.foldl_cons, ih, stepR, hit_dig _ (by omega), if_pos hd, Nat.pow_succ, Nat.mod_mul, Nat.add_mul]
    have e1 : acc * (b ^ N * b) = b * acc * b ^ N := by rw [Nat.mul_comm (b ^ N) b, ← Nat.mul_assoc, Nat.mul_comm acc b]
    have e2 : t / b ^ N % b * b ^ N = b ^ N * (t / b ^ N % b) := Nat.mul_comm _ _
    omega
theorem valR_digL (b : Nat) (hb : 0 < b) (hb16 : b ≤ 16) (N t : Nat) (h : t < b ^ N) : valR b (digL b N t) = t := by
  rw [valR, val_digL b hb hb16, Nat.zero_mul, Nat.zero_add, Nat.mod_eq_of_lt h]

theorem dig_range (d : Nat) (h : d < 10) : 48 ≤ (dig d).toNat ∧ (dig d).toNat ≤ 57 ∧ (dig d).toNat - 48 = d := by revert d; decide
theorem isHex_dig (d : Nat) (h : d < 16) : isHexB (dig d) = true := by revert d; decide

theorem parse_digL (M : Nat) (hM : M < 1844674407370955162) (N t : Nat) : ∀ acc, acc * 10 ^ N + t % 10 ^ N ≤ M → Lib.parseUintM M acc (digL 10 N t) = .ok (acc * 10 ^ N + t % 10 ^ N) := by
  induction N with
  | zero => intro acc _; simp [digL, Lib.parseUintM, Nat.mod_one]
  | succ N ih =>
    intro acc h
    have hd := Nat.mod_lt (t / 10 ^ N) (show 0 < 10 by decide)
    obtain ⟨d0, d1, d2⟩ := dig_range _ hd
    have e : (acc * 10 + t / 10 ^ N % 10) * 10 ^ N + t % 10 ^ N = acc * 10 ^ (N + 1) + t % 10 ^ (N + 1) := by
      rw [Nat.pow_succ, Nat.mod_mul, Nat.add_mul]
      have e1 : acc * (10 ^ N * 10) = acc * 10 * 10 ^ N := by rw [Nat.mul_comm (10 ^ N) 10, ← Nat.mul_assoc]
      have e2 : t / 10 ^ N % 10 * 10 ^ N = 10 ^ N * (t / 10 ^ N % 10) := Nat.mul_comm _ _
      omega
    have hp : 0 < 10 ^ N := Nat.pow_pos (by decide)
    have hle : acc * 10 + t / 10 ^ N % 10 ≤ M := by
      have h3 : (acc * 10 + t / 10 ^ N % 10) * 1 ≤ (acc * 10 + t / 10 ^ N % 10) * 10 ^ N := Nat.mul_le_mul_left _ hp
      omega
    rw [digL, Lib.parseUintM, if_pos ⟨d0, d1⟩, d2, if_neg (by omega), if_neg (by omega), ih _ (by omega), e]

theorem parse_dec (u : Nat) (h : u ≤ 2147483648) : Lib.parseUintB 32 (Lib.decDigits u) = .ok u := by
  obtain ⟨N, g1, g2, g3⟩ := dec_N u
  rw [g3]
  have hne : digL 10 (N + 1) u ≠ [] := by simp [digL]
  have e : (2 ^ 32 - 1 : Nat) = 4294967295 := by decide
  rw [Lib.parseUintB, if_neg hne, e, parse_digL 4294967295 (by decide) (N + 1) u 0 (by rw [Nat.mod_eq_of_lt g2]; omega), Nat.mod_eq_of_lt g2]
  simp
theorem dec_head (u : Nat) : ∃ c r, Lib.decDigits u = c :: r ∧ 48 ≤ c.toNat ∧ c.toNat ≤ 57 := by
  obtain ⟨N, g1, g2, g3⟩ := dec_N u
  have hd := dig_range (u / 10 ^ N % 10) (Nat.mod_lt _ (by decide))
  exact ⟨_, _, g3, hd.1, hd.2.1⟩
theorem dec_len (u : Nat) (h : u ≤ 2147483648) : (Lib.decDigits u).length ≤ 10 := by
  obtain ⟨N, g1, g2, g3⟩ := dec_N u
  rw [g3, digL_length]
  rcases g1 with rfl | g1
  · omega
  · rcases Nat.lt_or_ge N 10 with h1 | h1
    · omega
    · have : (10 : Nat) ^ 10 ≤ 10 ^ N := Nat.pow_le_pow_right (by decide) h1
      omega

theorem itoa_pos {v : Int} (h : 0 ≤ v) : Lib.itoa v = Lib.decDigits v.toNat := by unfold Lib.itoa; rw [if_neg (by omega)]
theorem itoa_neg' {v : Int} (h : v < 0) : Lib.itoa v = 45 :: Lib.decDigits v.natAbs := by unfold Lib.itoa; rw [if_pos h]
theorem itoa_head (v : Int) : ∃ c r, Lib.itoa v = c :: r ∧ c.toNat ≠ 35 ∧ c.toNat ≠ 43 ∧ ((v < 0 ∧ c = 45 ∧ r = Lib.decDigits v.natAbs) ∨ (0 ≤ v ∧ c.toNat ≠ 45)) := by
  by_cases h : v < 0
  · exact ⟨_, _, itoa_neg' h, by decide, by decide, .inl ⟨h, rfl, rfl⟩⟩
  · obtain ⟨c, r, e, h1, h2⟩ := dec_head v.toNat
    exact ⟨c, r, by rw [itoa_pos (by omega), e], by omega, by omega, .inr ⟨by omega, by omega⟩⟩
theorem itoa_len (v : Int) (hv : is32 v) : (Lib.itoa v).length ≤ 11 := by
  obtain ⟨v0, v1⟩ := hv
  by_cases h : v < 0
  · rw [itoa_neg' h, List.length_cons]
    have := dec_len v.natAbs (by omega); omega
  · rw [itoa_pos (by omega)]
    have := dec_len v.toNat (by omega); omega
theorem parse_itoa (v : Int) (hv : is32 v) : Lib.parseIntB 32 (Lib.itoa v) = .ok v := by
  obtain ⟨v0, v1⟩ := hv
  by_cases h : v < 0
  · rw [itoa_neg' h, Lib.parseIntB_minus, parse_dec _ (by omega)]
    have e : (2 ^ (32 - 1) : Nat) = 2147483648 := by decide
    rw [e]
    simp only [Lib.signedC]
    rw [if_neg (by omega)]
    congr 1; omega
  · obtain ⟨c, r, e1, h1, h2⟩ := dec_head v.toNat
    rw [itoa_pos (by omega), e1, Lib.parseIntB_plain 32 c r (by omega) (by omega), ← e1, parse_dec _ (by omega)]
    have e : (2 ^ (32 - 1) : Nat) = 2147483648 := by decide
    rw [e]
    simp only [Lib.signlessC]
    rw [if_neg (by omega)]
    congr 1; omega

/-- A word's text. -/
def textL (v : Int) (h : Bool) : List UInt8 := if h then 35 :: digL 16 8 (u32 v).toNat else Lib.itoa v
theorem u32_lt16 (v : Int) : (u32 v).toNat < 16 ^ 8 := by
  have h := u32_bounds v
  have e : (16 : Nat) ^ 8 = 4294967296 := by decide
  omega
theorem u32_inj {a b : Int} (ha : is32 a) (hb : is32 b) (h : (u32 a).toNat = (u32 b).toNat) : a = b := by
  obtain ⟨a0, a1⟩ := ha
  obtain ⟨b0, b1⟩ := hb
  unfold u32 at h; omega
theorem textL_inj {a b : Int} {g h : Bool} (ha : is32 a) (hb : is32 b) (e : textL a g = textL b h) : a = b ∧ g = h := by
  have head : ∀ x y : Int, ∀ l, (35 :: l : List UInt8) ≠ Lib.itoa y := fun x y l he => by
    obtain ⟨c, r, e1, h1, -, -⟩ := itoa_head y
    rw [e1] at he
    injection he with he _
    subst he
    exact h1 rfl
  cases g <;> cases h
  · simp only [textL] at e
    have h1 := parse_itoa a ha
    have e' : Lib.itoa a = Lib.itoa b := e
    rw [e', parse_itoa b hb] at h1
    injection h1 with h1
    exact ⟨h1.symm, rfl⟩
  · exact absurd e.symm (head b a _)
  · exact absurd e (head a b _)
  · have e' : (35 :: digL 16 8 (u32 a).toNat : List UInt8) = 35 :: digL 16 8 (u32 b).toNat := e
    injection e' with _ e'
    have h1 := valR_digL 16 (by decide) (by decide) 8 _ (u32_lt16 a)
    rw [e', valR_digL 16 (by decide) (by decide) 8 _ (u32_lt16 b)] at h1
    exact ⟨u32_inj ha hb h1.symm, rfl⟩

/-- What Read has to say of a text. -/
def IsRead (l : List UInt8) (v er : Int) : Prop := (er = 0 ∧ is32 v ∧ ∃ h, l = textL v h) ∨ (er = 5 ∧ v = 0 ∧ ∀ v h, is32 v → l ≠ textL v h)
theorem IsRead.unique {l : List UInt8} {v v' er er' : Int} (h : IsRead l v er) (h' : IsRead l v' er') : v = v' ∧ er = er' := by
  rcases h with ⟨rfl, hv, g, e⟩ | ⟨rfl, rfl, hn⟩ <;> rcases h' with ⟨rfl, hv', g', e'⟩ | ⟨rfl, rfl, hn'⟩
  · exact ⟨(textL_inj hv hv' (e ▸ e')).1, rfl⟩
  · exact absurd e (hn' v g hv)
  · exact absurd e' (hn v' g' hv')
  · exact ⟨rfl, rfl⟩
theorem isRead_text {v : Int} (hv : is32 v) (h : Bool) : IsRead (textL v h) v 0 := .inl ⟨rfl, hv, h, rfl⟩

/-! The program's reading of eight hexadecimal digits. -/
theorem valL_foldl (b : Nat) (l : List UInt8) : ∀ t, l.all isHexB = true → l.foldl (fun t c => 16 * t + hv c) t = l.foldl (fun t c => stepR 16 c t 16) t := by
  induction l with
  | nil => intro t _; rfl
  | cons c l ih =>
    intro t h
    rw [List.all_cons, Bool.and_eq_true] at h
    have hh : hit c = hv c := by unfold hit; rw [if_pos h.1]
    have h16 : hv c < 16 := by
      have := h.1
      unfold isHexB at this
      simp only [Bool.or_eq_true, Bool.and_eq_true, decide_eq_true_eq] at this
      unfold hv; split <;> omega
    rw [List.foldl_cons, List.foldl_cons, ih _ h.2, stepR, hh, if_pos h16]
theorem valL_valR {l : List UInt8} (h : l.all isHexB = true) : valL 16 l = valR 16 l := valL_foldl 16 l 0 h
theorem hit_hex {c : UInt8} (h : isHexB c = true) : hit c < 16 := by
  have := h
  unfold isHexB at this
  simp only [Bool.or_eq_true, Bool.and_eq_true, decide_eq_true_eq] at this
  unfold hit; rw [if_pos h]
  unfold hv; split <;> omega
theorem valR_ge (l : List UInt8) (h : l.all isHexB = true) : ∀ t, 16 ^ l.length * t ≤ l.foldl (fun t c => stepR 16 c t 16) t := by
  induction l with
  | nil => intro t; simp
  | cons c l ih =>
    intro t
    rw [List.all_cons, Bool.and_eq_true] at h
    rw [List.foldl_cons, List.length_cons, Nat.pow_succ]
    have h1 := ih h.2 (stepR 16 c t 16)
    have h2 : 16 * t ≤ stepR 16 c t 16 := by rw [stepR, if_pos (hit_hex h.1)]; omega
    have h3 : 16 ^ l.length * (16 * t) ≤ 16 ^ l.length * stepR 16 c t 16 := Nat.mul_le_mul_left _ h2
    rw [← Nat.mul_assoc] at h3
    omega
theorem digL_val (l : List UInt8) (h : l.all isHexB = true) : ∀ acc, digL 16 l.length (l.foldl (fun t c => stepR 16 c t 16) acc) = l := by
  induction l with
  | nil => intro; rfl
  | cons c l ih =>
    intro acc
    rw [List.all_cons, Bool.and_eq_true] at h
    rw [List.foldl_cons, List.length_cons, digL, ih h.2]
    congr 1
    have h16 := hit_hex h.1
    have e1 : stepR 16 c acc 16 = 16 * acc + hit c := by rw [stepR, if_pos h16]
    have h1 := valR_ge l h.2 (stepR 16 c acc 16)
    have h2 := valR_le 16 (by decide) l (stepR 16 c acc 16)
    have hp : 0 < 16 ^ l.length := Nat.pow_pos (by decide)
    have h3 : (l.foldl (fun t c => stepR 16 c t 16) (stepR 16 c acc 16)) / 16 ^ l.length = stepR 16 c acc 16 := by
      refine Nat.div_eq_of_lt_le ?_ ?_
      · rw [Nat.mul_comm]; exact h1
      · rw [Nat.mul_comm]; exact h2
    rw [h3, e1]
    have h4 : (16 * acc + hit c) % 16 = hit c := by omega
    rw [h4]
    exact dig_hit c h16
theorem hex_back (l : List UInt8) (h : l.all isHexB = true) (h8 : l.length = 8) : (35 :: l) = textL (wrap32 (valL 16 l % 4294967296 : Nat)) true ∧ valL 16 l < 4294967296 := by
  have h1 := digL_val l h 0
  have h2 := valR_lt 16 (by decide) l
  rw [h8] at h1 h2
  have e : (16 : Nat) ^ 8 = 4294967296 := by decide
  rw [e] at h2
  rw [valL_valR h]
  refine ⟨?_, h2⟩
  show 35 :: l = 35 :: digL 16 8 (u32 _).toNat
  have e2 : (u32 (wrap32 ((valR 16 l % 4294967296 : Nat) : Int))).toNat = valR 16 l := by
    generalize valR 16 l = z at h2
    unfold u32 wrap32; omega
  rw [e2]
  exact congrArg _ h1.symm
theorem hex_all (z : Nat) (N : Nat) : (digL 16 N z).all isHexB = true := by
  induction N with
  | zero => rfl
  | succ N ih => rw [digL, List.all_cons, ih, isHex_dig _ (Nat.mod_lt _ (by decide))]; rfl
end Go.Proofs.YtaakhhnlmldegaaDoor
