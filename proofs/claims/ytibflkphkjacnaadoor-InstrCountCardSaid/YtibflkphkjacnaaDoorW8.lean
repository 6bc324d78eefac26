
/- value of the reference, walked. -/
import Derived.Test.YtibflkphkjacnaaDoorW7
namespace Go.Proofs.YtibflkphkjacnaaDoor
open Go.RowKit
set_option linter.unusedVariables false
set_option linter.unusedSimpArgs false

/-- Which digit c is; 16 if it is none. -/
def hit (c : UInt8) : Nat := if isHexB c then hv c else 16
theorem hit_dig (d : Nat) (h : d < 16) : hit (dig d) = d := by revert d; decide
theorem dig_hit (c : UInt8) (h : hit c < 16) : dig (hit c) = c := by
  unfold hit at h ⊢
  split at h
  · rename_i hc
    rw [if_pos hc]
    unfold isHexB at hc
    have e : c = UInt8.ofNat c.toNat := by simp
    unfold dig hv
    simp only [Bool.or_eq_true, Bool.and_eq_true, decide_eq_true_eq] at hc
    split
    · rename_i h1; split
      · rw [e]; congr 1; simp; omega
      · omega
    · rename_i h1; split
      · omega
      · rw [e]; congr 1; simp; omega
  · omega
def stepR (b : Nat) (c : UInt8) (t n : Nat) : Nat := if hit c < n then b * t + hit c else t
theorem stepR_hit (b : Nat) (c : UInt8) (t n : Nat) (hn : n < 16) (h : dig n = c) : stepR b c t n = t ∧ stepR b c t (n + 1) = b * t + n := by
  have : hit c = n := by rw [← h, hit_dig n hn]
  unfold stepR
  rw [this, if_neg (by omega), if_pos (by omega)]
  exact ⟨rfl, rfl⟩
theorem stepR_miss (b : Nat) (c : UInt8) (t n : Nat) (hn : n < 16) (h : ¬ dig n = c) : stepR b c t (n + 1) = stepR b c t n := by
  have : ¬ hit c = n := fun h' => h (by rw [← h']; exact dig_hit c (by omega))
  unfold stepR
  by_cases h2 : hit c < n
  · rw [if_pos h2, if_pos (by omega)]
  · rw [if_neg h2, if_neg (by omega)]
def valR (b : Nat) (l : List UInt8) : Nat := l.foldl (fun t c => stepR b c t b) 0
theorem valR_snoc (b : Nat) (l : List UInt8) (c : UInt8) : valR b (l ++ [c]) = stepR b c (valR b l) b := by simp [valR]
theorem stepR_le (b : Nat) (c : UInt8) (t n : Nat) (hb : b ≤ 16) (hn : n ≤ 16) : stepR b c t n ≤ 16 * t + 15 := by
  unfold stepR
  split
  · have := Nat.mul_le_mul_right t hb; omega
  · omega
theorem valR_le (b : Nat) (hb : b ≤ 16) (l : List UInt8) : ∀ t, l.foldl (fun t c => stepR b c t b) t + 1 ≤ 16 ^ l.length * (t + 1) := by
  induction l with
  | nil => simp
  | cons c l ih =>
    intro t
    rw [List.foldl_cons, List.length_cons, Nat.pow_succ]
    have h1 := ih (stepR b c t b)
    have h2 := stepR_le b c t b hb hb
    have h3 : 16 ^ l.length * (stepR b c t b + 1) ≤ 16 ^ l.length * (16 * (t + 1)) := Nat.mul_le_mul_left _ (by omega)
    rw [← Nat.mul_assoc] at h3
    omega
theorem valR_lt (b : Nat) (hb : b ≤ 16) (l : List UInt8) : valR b l < 16 ^ l.length := by
  have := valR_le b hb l 0
  unfold valR
  omega
theorem eq_toNat (c d : UInt8) : (((c.toNat : Nat) : Int) == ((d.toNat : Nat) : Int)) = decide (c = d) := by
  rw [Bool.eq_iff_iff, beq_iff_eq, decide_eq_true_iff, Int.ofNat_inj, UInt8.toNat_inj]

theorem rvalue (s : ByteArray) (b : Nat) (w : World) (hb : b = 10 ∨ b = 16) (hs : s.size ≤ 11) :
    Calls Tryd.prog 41 #[.string s, .int .i64 b] w (RetV (.int .i64 (valR b s.data.toList : Nat)) w) := by
  have hb16 : b ≤ 16 := by omega
  have hlen : s.data.toList.length = s.size := by rw [Array.length_toList]; rfl
  go_enter Tryd.func41, Tryd.ntmps41
  go_wp2
  go_loopw [5, 6] (fun t i wr => ∃ k : Nat, k ≤ s.size ∧ i = .int .i64 k ∧ t = .int .i64 (valR b (s.data.toList.take k) : Nat) ∧ Below w.heap.size w wr) (fun _ i _ => s.size - (intOf i).toNat)
  case atStart => exact ⟨0, Nat.zero_le _, rfl, rfl, Below.refl _ _⟩
  case round =>
    obtain ⟨k, hk, rfl, rfl, hB⟩ := hrel
    by_cases hlt : k < s.size
    · have hki : (k : Int) < s.size := by omega
      have hnext := Lib.hid (show valR b (s.data.toList.take (k + 1)) = stepR b s[k] (valR b (s.data.toList.take k)) b from by rw [take_snoc s k hlt, valR_snoc])
      have hbound : valR b (s.data.toList.take k) < 17592186044416 := by
        have h1 := valR_lt b hb16 (s.data.toList.take k)
        have h2 : (16 : Nat) ^ (s.data.toList.take k).length ≤ 16 ^ 11 := Nat.pow_le_pow_right (by decide) (by simp; omega)
        have e : (16 : Nat) ^ 11 = 17592186044416 := by decide
        omega
      obtain ⟨t, ht⟩ : ∃ t, valR b (s.data.toList.take k) = t := ⟨_, rfl⟩
      rw [ht] at hnext hbound ⊢
      clear ht
      obtain ⟨c, hc⟩ : ∃ c, s[k] = c := ⟨_, rfl⟩
      rw [hc] at hnext
      go_wp2
      go_loopw [5, 7] (fun x i wr => ∃ d : Nat, d ≤ b ∧ i = .int .i64 d ∧ x = .int .i64 (stepR b c t d : Nat) ∧ Below w.heap.size w wr) (fun _ i _ => b - (intOf i).toNat)
      case atStart => exact ⟨0, Nat.zero_le _, rfl, by simp [stepR], hB⟩
      case round =>
        clear hB
        obtain ⟨d, hd, rfl, rfl, hB⟩ := hrel
        by_cases hdb : d < b
        · have hdI : (d : Int) < b := by omega
          have hd16 : d < 16 := by omega
          have e2 : ({ data := #[48, 49, 50, 51, 52, 53, 54, 55, 56, 57, 65, 66, 67, 68, 69, 70] } : ByteArray)[d] = dig d := dig_at d hd16
          have hle := stepR_le b c t d hb16 (by omega)
          by_cases hq : dig d = c
          · obtain ⟨e3, e4⟩ := stepR_hit b c t d hd16 hq
            rw [e3] at hle ⊢
            have H4 := Lib.hid e4; clear e3 e4
            have hb2 := Nat.mul_le_mul_right t hb16
            go_wp2
            go_quiet (fail)
            go_wp2
            go_roundw
            case rel => exact ⟨d + 1, hdb, by go_num, by rw [H4.out, Int.natCast_add, Int.natCast_mul], hB.trans ⟨rfl, rfl, rfl, Nat.le_refl _, fun _ _ => rfl⟩⟩
            case measure => simp [intOf]; omega
          · have htest : (((dig d).toNat : Int) == (c.toNat : Int)) = false := by rw [eq_toNat]; simpa using hq
            have H4 := Lib.hid (stepR_miss b c t d hd16 hq)
            obtain ⟨x, hx⟩ : ∃ x, stepR b c t d = x := ⟨_, rfl⟩
            rw [hx] at H4 ⊢
            clear hx
            go_wp2
            go_quiet (fail)
            go_wp2
            go_roundw
            case rel => exact ⟨d + 1, hdb, by go_num, by rw [H4.out], hB.trans ⟨rfl, rfl, rfl, Nat.le_refl _, fun _ _ => rfl⟩⟩
            case measure => simp [intOf]; omega
        · have hdI : ¬ (d : Int) < b := by omega
          have hdb2 : d = b := by omega
          obtain ⟨x, hx⟩ : ∃ x, stepR b c t d = x := ⟨_, rfl⟩
          have hx2 := Lib.hid (show stepR b c t b = x from hdb2 ▸ hx)
          rw [hx]
          clear hx hdb2
          go_wp2
          go_roundw
          case rel => exact ⟨k + 1, hlt, by go_num, by rw [hnext.out, hx2.out], hB⟩
          case measure => simp [intOf]; omega
    · have hl := List.take_of_length_le (by rw [hlen]; omega : s.data.toList.length ≤ k)
      rw [hl]
      go_wp2
      go_ret
      exact ⟨rfl, hB⟩
end Go.Proofs.YtibflkphkjacnaaDoor
