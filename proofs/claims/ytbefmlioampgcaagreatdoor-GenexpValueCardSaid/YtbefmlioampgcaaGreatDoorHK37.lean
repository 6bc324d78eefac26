/- Texts that belong together, joined: what each one holds is told ahead of it. -/
import Derived.Test.YtbefmlioampgcaaGreatDoorHK35
import Derived.Test.YtbefmlioampgcaaGreatDoorHK11
import Derived.Test.YtbefmlioampgcaaGreatDoorHK2
set_option linter.unusedVariables false
set_option linter.unusedSimpArgs false
/- The document's words that may be missing, walked: fit, some, truth, bit, Convert. -/
namespace Go.Proofs.YtbefmlioampgcaaGreatDoor
open Go.RowKit
set_option linter.unusedVariables false
set_option linter.unusedSimpArgs false

def wmO (o : Option Int) : Value := .tuple #[.int .i32 (o.getD 0), .bool o.isSome]
set_option maxRecDepth 100000 in
theorem rTruth14 (b : Bool) (w : World) : Calls Tryz.prog 86 #[.bool b] w (RetQ (wmO (some (truthL b))) w) := by
  cases b
  all_goals
    go_enter Tryz.func86, Tryz.ntmps86
    go_wp2
    go_ret2
    exact ⟨rfl, rfl⟩
set_option maxRecDepth 100000 in
theorem rSome14 (v : Int) (b : Bool) (w : World) : Calls Tryz.prog 78 #[.int .i32 v, .bool b] w (RetQ (wmO (someO (v, b))) w) := by
  cases b
  all_goals
    go_enter Tryz.func78, Tryz.ntmps78
    go_wp2
    go_ret2
    exact ⟨rfl, rfl⟩
set_option maxRecDepth 100000 in
theorem rFit14 (z : Int) (hz : -9223372036854775808 ≤ z ∧ z ≤ 9223372036854775807) (w : World) : Calls Tryz.prog 77 #[.int .i64 z] w (RetQ (wmO (someO (wrap32 z, wrap32 z != z))) w) := by
  have HF := Lib.hid (rFits z w)
  by_cases h : -2147483648 ≤ z ∧ z ≤ 2147483647
  · have hf : fits z = true := by unfold fits; simp; omega
    have hw : wrap32 z = z := w32_id h
    have hne : (wrap32 z != z) = false := by simp [hw]
    have HV : Hid (wmO (someO (wrap32 z, wrap32 z != z)) = .tuple #[.int .i32 z, .bool true]) := Lib.hid (by rw [hne, hw]; rfl)
    rw [HV.out]
    rw [hf] at HF
    clear hf hne HV
    go_enter Tryz.func77, Tryz.ntmps77
    go_wp2_with first
      | (go_at_call 97; (with_reducible refine HF.out.mono ?_); rintro e1 w1 ⟨rfl, rfl⟩)
    go_ret2
    exact ⟨by first | rfl | (rw [hw]), rfl⟩
  · have hf : fits z = false := by unfold fits; simp; omega
    have hne : (wrap32 z != z) = true := by
      have : wrap32 z ≠ z := by unfold wrap32; omega
      simpa using this
    have HV : Hid (wmO (someO (wrap32 z, wrap32 z != z)) = .tuple #[.int .i32 0, .bool false]) := Lib.hid (by rw [hne]; rfl)
    rw [HV.out]
    rw [hf] at HF
    clear hf hne HV
    go_enter Tryz.func77, Tryz.ntmps77
    go_wp2_with first
      | (go_at_call 97; (with_reducible refine HF.out.mono ?_); rintro e1 w1 ⟨rfl, rfl⟩)
    go_ret2
    exact ⟨rfl, rfl⟩
set_option maxRecDepth 100000 in
set_option maxHeartbeats 2000000 in
theorem rConvert14 (t : Nat) (v : Int) (hv : is32 v) (w : World) : Calls Tryz.prog 52 #[.int .u8 t, .int .i32 v] w (RetQ (wmO (convO t v)) w) := by
  have HT := Lib.hid (rSome14 v true w)
  have HF := Lib.hid (rSome14 v false w)
  obtain ⟨K, hK⟩ : ∃ K : Int, (t : Int) = K := ⟨_, rfl⟩
  rw [hK]
  have hco : convO t v = if K = 1 ∨ (K = 2 ∧ 0 ≤ v ∧ v ≤ 255) ∨ (K = 3 ∧ 0 ≤ v ∧ v ≤ 1) then some v else none := by
    unfold convO
    congr 1
    rw [eq_iff_iff]
    omega
  rw [hco]
  have e1 : wmO (someO (v, false)) = .tuple #[.int .i32 v, .bool true] := rfl
  have e2 : wmO (someO (v, true)) = .tuple #[.int .i32 0, .bool false] := rfl
  rw [e2] at HT
  rw [e1] at HF
  clear hco hK e1 e2
  by_cases k1 : K = 1
  · subst k1
    rw [if_pos (.inl rfl)]
    go_enter Tryz.func52, Tryz.ntmps52
    go_wp2_with first
      | (go_at_call 78; (with_reducible refine HF.out.mono ?_); rintro e1 w1 ⟨rfl, rfl⟩)
    go_ret2
    exact ⟨rfl, rfl⟩
  have b1 : (K == 1) = false := by simpa using k1
  by_cases k2 : K = 2
  · subst k2
    by_cases v0 : 0 ≤ v
    · by_cases v1 : v ≤ 255
      · rw [if_pos (by omega)]
        go_enter Tryz.func52, Tryz.ntmps52
        go_wp2_with first
          | (go_at_call 78; (with_reducible refine HF.out.mono ?_); rintro e1 w1 ⟨rfl, rfl⟩)
        go_ret2
        exact ⟨rfl, rfl⟩
      · rw [if_neg (by omega)]
        go_enter Tryz.func52, Tryz.ntmps52
        go_wp2_with first
          | (go_at_call 78; (with_reducible refine HT.out.mono ?_); rintro e1 w1 ⟨rfl, rfl⟩)
        go_ret2
        exact ⟨rfl, rfl⟩
    · rw [if_neg (by omega)]
      go_enter Tryz.func52, Tryz.ntmps52
      go_wp2_with first
        | (go_at_call 78; (with_reducible refine HT.out.mono ?_); rintro e1 w1 ⟨rfl, rfl⟩)
      go_ret2
      exact ⟨rfl, rfl⟩
  have b2 : (K == 2) = false := by simpa using k2
  by_cases k3 : K = 3
  · subst k3
    by_cases v0 : 0 ≤ v
    · by_cases v1 : v ≤ 1
      · rw [if_pos (by omega)]
        go_enter Tryz.func52, Tryz.ntmps52
        go_wp2_with first
          | (go_at_call 78; (with_reducible refine HF.out.mono ?_); rintro e1 w1 ⟨rfl, rfl⟩)
        go_ret2
        exact ⟨rfl, rfl⟩
      · rw [if_neg (by omega)]
        go_enter Tryz.func52, Tryz.ntmps52
        go_wp2_with first
          | (go_at_call 78; (with_reducible refine HT.out.mono ?_); rintro e1 w1 ⟨rfl, rfl⟩)
        go_ret2
        exact ⟨rfl, rfl⟩
    · rw [if_neg (by omega)]
      go_enter Tryz.func52, Tryz.ntmps52
      go_wp2_with first
        | (go_at_call 78; (with_reducible refine HT.out.mono ?_); rintro e1 w1 ⟨rfl, rfl⟩)
      go_ret2
      exact ⟨rfl, rfl⟩
  have b3 : (K == 3) = false := by simpa using k3
  rw [if_neg (by omega)]
  go_enter Tryz.func52, Tryz.ntmps52
  go_wp2_with first
    | (go_at_call 78; (with_reducible refine HT.out.mono ?_); rintro e1 w1 ⟨rfl, rfl⟩)
  go_ret2
  exact ⟨rfl, rfl⟩
def bitF (o x y : Int) : Int := if o = 9 then x * y else if o = 10 then x + y - x * y else if o = 11 then Int.tmod (x + y) 2 else 1 - x
set_option maxRecDepth 100000 in
theorem rBit14 (o x y : Int) (hx : x = 0 ∨ x = 1) (hy : y = 0 ∨ y = 1) (w : World) : Calls Tryz.prog 100 #[.int .u8 o, .int .i64 x, .int .i64 y] w (RetQ (.int .i64 (bitF o x y)) w) := by
  by_cases h9 : o = 9
  · subst h9
    rcases hx with rfl | rfl <;> rcases hy with rfl | rfl
    all_goals
      go_enter Tryz.func100, Tryz.ntmps100
      go_wp2
      go_ret
      exact ⟨rfl, rfl⟩
  by_cases h10 : o = 10
  · subst h10
    rcases hx with rfl | rfl <;> rcases hy with rfl | rfl
    all_goals
      go_enter Tryz.func100, Tryz.ntmps100
      go_wp2
      go_ret
      exact ⟨rfl, rfl⟩
  by_cases h11 : o = 11
  · subst h11
    rcases hx with rfl | rfl <;> rcases hy with rfl | rfl
    all_goals
      go_enter Tryz.func100, Tryz.ntmps100
      go_wp2
      go_ret
      exact ⟨rfl, rfl⟩
  have b9 : (o == 9) = false := by simpa using h9
  have b10 : (o == 10) = false := by simpa using h10
  have b11 : (o == 11) = false := by simpa using h11
  have hb : bitF o x y = 1 - x := by unfold bitF; rw [if_neg h9, if_neg h10, if_neg h11]
  rw [hb]
  clear hb
  rcases hx with rfl | rfl
  all_goals
    go_enter Tryz.func100, Tryz.ntmps100
    go_wp2
    go_ret
    exact ⟨rfl, rfl⟩
end Go.Proofs.YtbefmlioampgcaaGreatDoor

/- The document's bit by bit, walked. -/
namespace Go.Proofs.YtbefmlioampgcaaGreatDoor
open Go.RowKit
set_option linter.unusedVariables false
set_option linter.unusedSimpArgs false

/-- What an operator makes of two unsigned words. -/
def bitN (o : Int) (x y : Nat) : Nat := if o = 9 then x &&& y else if o = 10 then x ||| y else if o = 11 then x ^^^ y else 4294967295 - x
theorem shr_bit (x k : Nat) : x / 2 ^ k % 2 = (x.testBit k).toNat := by rw [Nat.testBit_eq_decide_div_mod_eq]; have : x / 2 ^ k % 2 < 2 := Nat.mod_lt _ (by decide); rcases (show x / 2 ^ k % 2 = 0 ∨ x / 2 ^ k % 2 = 1 by omega) with h | h <;> simp [h]
theorem bitN_bit {o : Int} {x y : Nat} (hx : x < 4294967296) (k : Nat) (hk : k < 32) : bitF o ((x.testBit k).toNat : Int) ((y.testBit k).toNat : Int) = (((bitN o x y).testBit k).toNat : Int) := by
  unfold bitF bitN
  by_cases h9 : o = 9
  · rw [if_pos h9, if_pos h9, Nat.testBit_and]
    cases x.testBit k <;> cases y.testBit k <;> rfl
  by_cases h10 : o = 10
  · rw [if_neg h9, if_neg h9, if_pos h10, if_pos h10, Nat.testBit_or]
    cases x.testBit k <;> cases y.testBit k <;> rfl
  by_cases h11 : o = 11
  · rw [if_neg h9, if_neg h9, if_neg h10, if_neg h10, if_pos h11, if_pos h11, Nat.testBit_xor]
    cases x.testBit k <;> cases y.testBit k <;> rfl
  rw [if_neg h9, if_neg h9, if_neg h10, if_neg h10, if_neg h11, if_neg h11]
  have hsub : (4294967295 - x).testBit k = !x.testBit k := by
    have h := Nat.testBit_two_pow_sub_succ (x := x) (n := 32) (by simpa using hx) k
    have e : 2 ^ 32 - (x + 1) = 4294967295 - x := by omega
    rw [e] at h
    rw [h]
    simp [hk]
  rw [hsub]
  cases x.testBit k <;> rfl
theorem bitN_lt {o : Int} {x y : Nat} (hx : x < 4294967296) (hy : y < 4294967296) : bitN o x y < 4294967296 := by
  unfold bitN
  split
  · exact Nat.lt_of_le_of_lt Nat.and_le_left hx
  · split
    · exact Nat.or_lt_two_pow (n := 32) hx hy
    · split
      · exact Nat.xor_lt_two_pow (n := 32) hx hy
      · omega
theorem mod_step (N k : Nat) : N % 2 ^ (k + 1) = N % 2 ^ k + (N.testBit k).toNat * 2 ^ k := by
  rw [Nat.mod_pow_succ, ← shr_bit, Nat.mul_comm]
theorem shr_int (x k : Nat) : ((x : Int) / 2 ^ k).tmod 2 = (((x.testBit k).toNat : Nat) : Int) := by
  have h1 : (x : Int) / 2 ^ k = ((x / 2 ^ k : Nat) : Int) := by
    rw [Int.natCast_ediv, Int.natCast_pow]
    rfl
  have h2 : (((x / 2 ^ k % 2 : Nat)) : Int) = Int.tmod ((x / 2 ^ k : Nat) : Int) ((2 : Nat) : Int) := Int.ofNat_tmod _ _
  rw [h1, ← shr_bit]
  exact h2.symm
set_option maxRecDepth 100000 in
set_option maxHeartbeats 4000000 in
theorem rBitwise14 (o a b : Int) (ha : is32 a) (hb : is32 b) (w : World) : Calls Tryz.prog 83 #[.int .u8 o, .int .i32 a, .int .i32 b] w
    (RetV (.int .i32 (wrap32 (bitN o (u32 a).toNat (u32 b).toNat : Nat))) w) := by
  have HA := Lib.hid (fun w => rUns a w ha)
  have HB := Lib.hid (fun w => rUns b w hb)
  obtain ⟨x, hx⟩ : ∃ x : Nat, u32 a = x := ⟨(u32 a).toNat, by unfold u32; omega⟩
  obtain ⟨y, hy⟩ : ∃ y : Nat, u32 b = y := ⟨(u32 b).toNat, by unfold u32; omega⟩
  have hxl : x < 4294967296 := by unfold u32 at hx; omega
  have hyl : y < 4294967296 := by unfold u32 at hy; omega
  rw [hx] at HA
  rw [hy] at HB
  rw [hx, hy, Int.toNat_natCast, Int.toNat_natCast]
  have hN := bitN_lt (o := o) hxl hyl
  have HBT := Lib.hid (fun k hk => bitN_bit (o := o) (y := y) hxl k hk)
  obtain ⟨N, hNN⟩ : ∃ N, bitN o x y = N := ⟨_, rfl⟩
  rw [hNN] at hN HBT ⊢
  have HWR := Lib.hid (fun w => rWrap (N : Int) w (by omega) (by omega))
  clear hx hy hNN ha hb
  go_enter Tryz.func83, Tryz.ntmps83
  go_wp2_with first
    | (go_at_call 99; (with_reducible refine (HA.out _).mono ?_); rintro e1 w1 ⟨rfl, rfl⟩; clear HA)
    | (go_at_call 99; (with_reducible refine (HB.out _).mono ?_); rintro e2 w2 ⟨rfl, rfl⟩)
  go_loopw [9, 10] (fun v i wr => ∃ k : Nat, k ≤ 32 ∧ v = .int .i64 (N % 2 ^ k : Nat) ∧ i = .int .i64 k ∧ Hid (Below w.heap.size w wr)) (fun _ i _ => 32 - (intOf i).toNat)
  case atStart => exact ⟨0, by omega, by simp [Nat.mod_one], rfl, Lib.hid (Below.refl _ _)⟩
  case round =>
    obtain ⟨k, hk, rfl, rfl, HW⟩ := hrel
    by_cases hlt : k < 32
    · have hltI : (k : Int) < 32 := by omega
      have hk0 : (0 : Int) ≤ k := by omega
      obtain ⟨ι, F, i0', h0', hFb, hcl⟩ := fam_below wr
      haveI : Nonempty ι := ⟨i0'⟩
      have HBC : Hid (∀ w, Calls Tryz.prog 100 #[.int .u8 o, .int .i64 (((x : Int) / 2 ^ k).tmod 2), .int .i64 (((y : Int) / 2 ^ k).tmod 2)] w (RetQ (.int .i64 ((N.testBit k).toNat : Nat)) w)) := Lib.hid fun w => by
        rw [shr_int, shr_int, ← HBT.out k hlt]
        exact rBit14 o _ _ (by cases x.testBit k <;> simp) (by cases y.testBit k <;> simp) w
      have HMS := Lib.hid (mod_step N k)
      have hp1 : (1 : Int) ≤ 2 ^ k := by
        have h := Int.ofNat_le.2 (Nat.one_le_two_pow (n := k))
        rw [Int.natCast_pow] at h
        exact h
      have hp2 : (2 : Int) ^ k ≤ 2147483648 := by
        have hpn : 2 ^ k ≤ 2147483648 := Nat.le_trans (Nat.pow_le_pow_right (by decide) (show k ≤ 31 by omega)) (by decide)
        have h := Int.ofNat_le.2 hpn
        rw [Int.natCast_pow] at h
        exact h
      have hmN : N % 2 ^ k ≤ N := Nat.mod_le _ _
      have HFB := Lib.hid hFb
      obtain ⟨bt, hbt⟩ : ∃ b, N.testBit k = b := ⟨_, rfl⟩
      rw [hbt] at HBC HMS
      clear hFb hbt
      cases bt
      all_goals
        simp only [Bool.toNat_true, Bool.toNat_false] at HBC HMS
        go_wp2
        refine wp_region_quiet_fam F i0' h0' (by kernel_rfl) (by kernel_rfl) ?_
        repeat (go_big_quiet_step (first | (go_at_call 100; (with_reducible refine (HBC.out _).mono ?_); rintro e3 w3 ⟨rfl, rfl⟩; exact ⟨rfl, _, rfl⟩)))
        refine wpQuiet_nil ?_
        intro i
        go_wp2
        go_roundw
        case rel => exact ⟨k + 1, by omega, by rw [HMS.out]; first | rfl | (congr 1; push_cast; omega) | (congr 1; simp), by go_num, Lib.hid (HW.out.trans ((HFB.out i).mono HW.out.size))⟩
        case measure => simp [intOf]; omega
    · have hltI : ¬ (k : Int) < 32 := by omega
      obtain rfl : k = 32 := by omega
      have e : N % 2 ^ 32 = N := Nat.mod_eq_of_lt (by omega)
      rw [e]
      go_wp2_with first
        | (go_at_call 81; (with_reducible refine (HWR.out _).mono ?_); rintro e3 w3 ⟨rfl, rfl⟩)
      go_ret
      exact ⟨rfl, HW.out⟩
end Go.Proofs.YtbefmlioampgcaaGreatDoor
