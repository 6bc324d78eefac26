
/- digits and value of the reference, walked. -/
import Derived.Test.YtibflkphkjacnaaDoorW6
namespace Go.Proofs.YtibflkphkjacnaaDoor
open Go.RowKit
set_option linter.unusedVariables false
set_option linter.unusedSimpArgs false

def strB (l : List UInt8) : ByteArray := ⟨l.toArray⟩

theorem strB_cons (d : Nat) (h : d < 16) (l : List UInt8) :
    (({ data := #[48, 49, 50, 51, 52, 53, 54, 55, 56, 57, 65, 66, 67, 68, 69, 70] } : ByteArray).extract d (d + 1)) ++ strB l = strB (dig d :: l) := by
  have e : (({ data := #[48, 49, 50, 51, 52, 53, 54, 55, 56, 57, 65, 66, 67, 68, 69, 70] } : ByteArray).extract d (d + 1)) = strB [dig d] := by
    revert d; decide
  rw [e]
  apply ByteArray.ext
  rw [ByteArray.data_append]; simp [strB]

theorem pow_base (b k t : Nat) (hb : b = 10 ∨ b = 16) (ht : t < 4294967296) (h : 0 < t / b ^ k) : k < 40 := by
  have h1 : b ^ k ≤ t := by
    rcases Nat.lt_or_ge t (b ^ k) with h2 | h2
    · rw [Nat.div_eq_of_lt h2] at h; omega
    · exact h2
  have h2 : 2 ^ k ≤ b ^ k := Nat.pow_le_pow_left (by omega) k
  rcases Nat.lt_or_ge k 40 with h3 | h3
  · exact h3
  · have h4 : 2 ^ 40 ≤ 2 ^ k := Nat.pow_le_pow_right (by decide) h3
    omega

theorem rdigits (t b l : Nat) (w : World) (hb : b = 10 ∨ b = 16) (hl : l ≤ 8) (ht : t < 4294967296) :
    Calls Tryd.prog 33 #[.int .i64 t, .int .i64 b, .int .i64 l] w (fun e w' => ∃ N, l ≤ N ∧ t < b ^ N ∧ (N = l ∨ b ^ (N - 1) ≤ t) ∧ e = .returned (.string (strB (digL b N t))) ∧ Below w.heap.size w w') := by
  go_enter Tryd.func33, Tryd.ntmps33
  go_wp2
  go_loopw [0, 7, 8] (fun x s i wr => ∃ k : Nat, i = .int .i64 k ∧ (k ≤ l ∨ b ^ (k - 1) ≤ t) ∧ x = .int .i64 (t / b ^ k : Nat) ∧ s = .string (strB (digL b k t)) ∧ Below w.heap.size w wr) (fun _ _ i _ => 64 - (intOf i).toNat)
  case atStart => exact ⟨0, rfl, .inl (by omega), by simp, rfl, Below.refl _ _⟩
  case round =>
    obtain ⟨k, rfl, hk, rfl, rfl, hB⟩ := hrel
    have hk64' : 0 < t / b ^ k → k < 40 := pow_base b k t hb ht
    have hlt : t / b ^ k = 0 → t < b ^ k := fun h => by
      have hpos : 0 < b ^ k := Nat.pow_pos (by omega)
      exact (Nat.div_eq_zero_iff_lt hpos).1 h
    have hstep : t / b ^ (k + 1) = t / b ^ k / b := by rw [Nat.pow_succ, Nat.div_div_eq_div_mul]
    have hge : 0 < t / b ^ k → b ^ k ≤ t := fun h => by
      rcases Nat.lt_or_ge t (b ^ k) with h2 | h2
      · rw [Nat.div_eq_of_lt h2] at h; omega
      · exact h2
    have Hd : Hid (digL b (k + 1) t = dig (t / b ^ k % b) :: digL b k t) := rfl
    obtain ⟨x, hx⟩ : ∃ x, t / b ^ k = x := ⟨_, rfl⟩
    have hxl : x ≤ t := hx ▸ Nat.div_le_self _ _
    rw [hx] at hk64' hlt hstep hge Hd ⊢
    clear hx
    have hSl : (strB (digL b k t)).size = k := digL_length b k t
    obtain ⟨S, hS⟩ : ∃ S, strB (digL b k t) = S := ⟨_, rfl⟩
    rw [hS] at hSl ⊢
    have hb0 : ¬ (b : Int) = 0 := by omega
    have hb16 : b ≤ 16 := by omega
    have hb1 : 0 < b := by omega
    obtain ⟨d, hd⟩ : ∃ d, x % b = d := ⟨_, rfl⟩
    have hdb : d < 16 := by have := Nat.mod_lt x hb1; omega
    have hdI : (x : Int) % (b : Int) = (d : Int) := by rw [← hd]; rfl
    obtain ⟨y, hy⟩ : ∃ y, x / b = y := ⟨_, rfl⟩
    have hyl : y ≤ x := hy ▸ Nat.div_le_self _ _
    have hyI : (x : Int) / (b : Int) = (y : Int) := by rw [← hy]; rfl
    rw [hd] at Hd
    rw [hy] at hstep
    have HS := Lib.hid (show strB (digL b (k + 1) t) = _ from by rw [Hd.out, ← strB_cons d hdb, hS])
    have HX := Lib.hid (And.intro hlt (And.intro hstep (And.intro hge hS)))
    clear hlt hstep hge hS Hd hd hy
    by_cases h1 : k < l
    · have h1' : (k : Int) < l := by omega
      go_wp2
      go_quiet (fail)
      go_wp2
      go_roundw
      case rel =>
        obtain ⟨_, e2, _, _⟩ := HX.out
        exact ⟨k + 1, by go_num, .inl h1, by rw [e2], by rw [HS.out], hB.trans ⟨rfl, rfl, rfl, Nat.le_refl _, fun _ _ => rfl⟩⟩
      case measure => simp [intOf]; omega
    · have h1' : ¬ (k : Int) < l := by omega
      by_cases h2 : 0 < x
      · have h2' : 0 < (x : Int) := by omega
        have hk40 := hk64' h2
        go_wp2
        go_quiet (fail)
        go_wp2
        go_roundw
        case rel =>
          obtain ⟨_, e2, e3, _⟩ := HX.out
          exact ⟨k + 1, by go_num, .inr (e3 h2), by rw [e2], by rw [HS.out], hB.trans ⟨rfl, rfl, rfl, Nat.le_refl _, fun _ _ => rfl⟩⟩
        case measure => simp [intOf]; omega
      · have h2' : ¬ 0 < (x : Int) := by omega
        go_wp2
        go_ret
        obtain ⟨e1, _, _, e4⟩ := HX.out
        refine ⟨k, by omega, e1 (by omega), ?_, by rw [e4]; rfl, hB⟩
        rcases hk with h | h
        · exact .inl (by omega)
        · exact .inr h
end Go.Proofs.YtibflkphkjacnaaDoor
