/- The document's Apply, walked (printed by tools/gen_apply.py). -/
import Derived.Test.YtbefmlioampgcaaGreatDoorHK37
import Derived.Test.YtbefmlioampgcaaGreatDoorHK34
namespace Go.Proofs.YtbefmlioampgcaaGreatDoor
open Go.RowKit
set_option linter.unusedVariables false
set_option linter.unusedSimpArgs false

theorem u32_not {a : Int} (ha : is32 a) (y : Nat) : wrap32 ((bitN 25 (u32 a).toNat y : Nat) : Int) = -1 - a := by
  unfold is32 at ha
  unfold bitN u32 wrap32
  rw [if_neg (by decide), if_neg (by decide), if_neg (by decide)]
  omega
theorem ofInt_nat {a : Int} : (BitVec.ofInt 32 a).toNat = (u32 a).toNat := by
  rw [BitVec.toNat_ofInt]
  rfl
theorem bits_9 (a b : Int) : wrap32 ((bitN 9 (u32 a).toNat (u32 b).toNat : Nat) : Int) = bits .and .i32 a b := by
  have hN : (BitVec.ofInt 32 a &&& BitVec.ofInt 32 b).toNat = bitN 9 (u32 a).toNat (u32 b).toNat := by
    rw [BitVec.toNat_and, ofInt_nat, ofInt_nat]
    unfold bitN
    simp
  show _ = IntKind.i32.wrap ((BitVec.ofInt 32 a &&& BitVec.ofInt 32 b).toNat : Nat)
  rw [hN]
  generalize bitN 9 (u32 a).toNat (u32 b).toNat = N
  rw [IntKind.wrap_i32]
  unfold wrap32
  omega
theorem bits_10 (a b : Int) : wrap32 ((bitN 10 (u32 a).toNat (u32 b).toNat : Nat) : Int) = bits .or .i32 a b := by
  have hN : (BitVec.ofInt 32 a ||| BitVec.ofInt 32 b).toNat = bitN 10 (u32 a).toNat (u32 b).toNat := by
    rw [BitVec.toNat_or, ofInt_nat, ofInt_nat]
    unfold bitN
    simp
  show _ = IntKind.i32.wrap ((BitVec.ofInt 32 a ||| BitVec.ofInt 32 b).toNat : Nat)
  rw [hN]
  generalize bitN 10 (u32 a).toNat (u32 b).toNat = N
  rw [IntKind.wrap_i32]
  unfold wrap32
  omega
theorem bits_11 (a b : Int) : wrap32 ((bitN 11 (u32 a).toNat (u32 b).toNat : Nat) : Int) = bits .xor .i32 a b := by
  have hN : (BitVec.ofInt 32 a ^^^ BitVec.ofInt 32 b).toNat = bitN 11 (u32 a).toNat (u32 b).toNat := by
    rw [BitVec.toNat_xor, ofInt_nat, ofInt_nat]
    unfold bitN
    simp
  show _ = IntKind.i32.wrap ((BitVec.ofInt 32 a ^^^ BitVec.ofInt 32 b).toNat : Nat)
  rw [hN]
  generalize bitN 11 (u32 a).toNat (u32 b).toNat = N
  rw [IntKind.wrap_i32]
  unfold wrap32
  omega
theorem rNot14 {a b : Int} (ha : is32 a) (hb : is32 b) (w : World) : Calls Tryz.prog 83 #[.int .u8 25, .int .i32 a, .int .i32 b] w (RetV (.int .i32 (-1 - a)) w) := by
  rw [← u32_not ha (u32 b).toNat]
  exact rBitwise14 25 a b ha hb w
theorem prod64 {a b : Int} (ha : is32 a) (hb : is32 b) : -9223372036854775808 ≤ a * b ∧ a * b ≤ 9223372036854775807 := by
  unfold is32 at ha hb
  have h1 : (a * b).natAbs ≤ 2147483648 * 2147483648 := by
    rw [Int.natAbs_mul]
    exact Nat.mul_le_mul (by omega) (by omega)
  omega
set_option maxRecDepth 100000 in
set_option maxHeartbeats 16000000 in
theorem rApply14 (o : Nat) {a b : Int} (ha : is32 a) (hb : is32 b) (w : World) : Calls Tryz.prog 51 #[.int .u8 o, .int .i32 a, .int .i32 b] w (RetV (wmO (applyO o a b)) w) := by
  have HA := Lib.hid ha
  have HB := Lib.hid hb
  unfold is32 at ha hb
  obtain ⟨T, hT⟩ : ∃ T, (bit01 a && bit01 b) = T := ⟨_, rfl⟩
  have HT := Lib.hid hT
  obtain ⟨R, hR⟩ : ∃ R, applyO o a b = R := ⟨_, rfl⟩
  rw [hR]
  have HR := Lib.hid hR
  obtain ⟨K, hK⟩ : ∃ K : Int, (o : Int) = K := ⟨_, rfl⟩
  rw [hK]
  have HK := Lib.hid hK
  clear hT hR hK
  go_enter Tryz.func51, Tryz.ntmps51
  go_upto_region 1 with (fail)
  go_cut [8] (fun t wx => t = .bool T ∧ wx = w)
  case first =>
    have hbb : ∀ z : Int, (z == 0) = true ∨ ((z == 0) = false ∧ (z == 1) = true) ∨ ((z == 0) = false ∧ (z == 1) = false) := fun z => by cases (z == 0) <;> cases (z == 1) <;> simp
    rcases hbb a with a0 | ⟨a0, a1⟩ | ⟨a0, a1⟩ <;> rcases hbb b with b0 | ⟨b0, b1⟩ | ⟨b0, b1⟩
    all_goals
      clear hbb
      go_wp2
      go_meet
      refine ⟨?_, rfl⟩
      rw [← HT.out]
      unfold bit01
      simp only [*]
      try rfl
  case rest =>
    obtain ⟨rfl, hwc⟩ := hcut
    rw [hwc]
    clear hwc
    by_cases k1 : K = 1
    · subst k1
      obtain rfl : R = someO (wrap32 (a + b), wrap32 (a + b) != a + b) := by rw [← HR.out, show o = 1 by have := HK.out; omega]; rfl
      have HC := Lib.hid (fun w => rFit14 (a + b) ⟨by omega, by omega⟩ w)
      unfold wmO at HC
      clear HR HK HT
      go_wp2_with first
        | (go_at_call 77; (with_reducible refine (HC.out _).mono ?_); rintro e1 w1 ⟨rfl, rfl⟩)
      go_ret2
      exact ⟨rfl, Below.refl _ _⟩
    have b1 : (K == 1) = false := by simpa using k1
    by_cases k2 : K = 2
    · subst k2
      obtain rfl : R = someO (wrap32 (a - b), wrap32 (a - b) != a - b) := by rw [← HR.out, show o = 2 by have := HK.out; omega]; rfl
      have HC := Lib.hid (fun w => rFit14 (a - b) ⟨by omega, by omega⟩ w)
      unfold wmO at HC
      clear HR HK HT
      go_wp2_with first
        | (go_at_call 77; (with_reducible refine (HC.out _).mono ?_); rintro e1 w1 ⟨rfl, rfl⟩)
      go_ret2
      exact ⟨rfl, Below.refl _ _⟩
    have b2 : (K == 2) = false := by simpa using k2
    by_cases k3 : K = 3
    · subst k3
      obtain rfl : R = someO (wrap32 (a * b), wrap32 (a * b) != a * b) := by rw [← HR.out, show o = 3 by have := HK.out; omega]; rfl
      have HM := Lib.hid (prod64 HA.out HB.out)
      obtain ⟨m0, m1⟩ := HM.out
      have HC := Lib.hid (fun w => rFit14 (a * b) HM.out w)
      unfold wmO at HC
      clear HR HK HT
      go_wp2_with first
        | (go_at_call 77; (with_reducible refine (HC.out _).mono ?_); rintro e1 w1 ⟨rfl, rfl⟩)
      go_ret2
      exact ⟨rfl, Below.refl _ _⟩
    have b3 : (K == 3) = false := by simpa using k3
    by_cases k4 : K = 4
    · subst k4
      obtain ⟨q, hq⟩ : ∃ q : Int × Bool, (if b = 0 ∨ (a = -2147483648 ∧ b = -1) then ((0 : Int), true) else (a.tdiv b, false)) = q := ⟨_, rfl⟩
      have HD : Hid (∀ w, Calls Tryz.prog 79 #[.int .i32 a, .int .i32 b] w (RetQ (.tuple #[.int .i32 q.1, .bool q.2]) w)) := Lib.hid fun w => by
        have := rDiv a b w HA.out HB.out
        rw [divF_eq, hq] at this
        exact this
      obtain ⟨q1, q2⟩ := q
      obtain rfl : R = someO (q1, q2) := by rw [← HR.out, show o = 4 by have := HK.out; omega]; (show someO (if b = 0 ∨ (a = -2147483648 ∧ b = -1) then ((0 : Int), true) else (a.tdiv b, false)) = someO (q1, q2)); rw [hq]
      clear HR HK HT
      go_wp2_with first
        | (go_at_call 79; (with_reducible refine (HD.out _).mono ?_); rintro e1 w1 ⟨rfl, rfl⟩)
        | (go_at_call 78; (with_reducible refine (rSome14 _ _ _).mono ?_); unfold wmO; rintro e2 w2 ⟨rfl, rfl⟩)
      go_ret2
      exact ⟨rfl, Below.refl _ _⟩
    have b4 : (K == 4) = false := by simpa using k4
    by_cases k5 : K = 5
    · subst k5
      obtain ⟨q, hq⟩ : ∃ q : Int × Bool, (if b = 0 then ((0 : Int), true) else (a.tmod b, false)) = q := ⟨_, rfl⟩
      have HD : Hid (∀ w, Calls Tryz.prog 80 #[.int .i32 a, .int .i32 b] w (RetQ (.tuple #[.int .i32 q.1, .bool q.2]) w)) := Lib.hid fun w => by
        have := rRem a b w HA.out HB.out
        rw [remF_eq, hq] at this
        exact this
      obtain ⟨q1, q2⟩ := q
      obtain rfl : R = someO (q1, q2) := by rw [← HR.out, show o = 5 by have := HK.out; omega]; (show someO (if b = 0 then ((0 : Int), true) else (a.tmod b, false)) = someO (q1, q2)); rw [hq]
      clear HR HK HT
      go_wp2_with first
        | (go_at_call 80; (with_reducible refine (HD.out _).mono ?_); rintro e1 w1 ⟨rfl, rfl⟩)
        | (go_at_call 78; (with_reducible refine (rSome14 _ _ _).mono ?_); unfold wmO; rintro e2 w2 ⟨rfl, rfl⟩)
      go_ret2
      exact ⟨rfl, Below.refl _ _⟩
    have b5 : (K == 5) = false := by simpa using k5
    by_cases k6 : K = 6
    · subst k6
      obtain rfl : R = some (wrap32 (a + b)) := by rw [← HR.out, show o = 6 by have := HK.out; omega]; rfl
      have HC := Lib.hid (fun w => rWrap (a + b) w (by omega) (by omega))
      clear HR HK HT
      go_wp2_with first
        | (go_at_call 81; (with_reducible refine (HC.out _).mono ?_); rintro e1 w1 ⟨rfl, rfl⟩)
      go_ret2
      exact ⟨rfl, Below.refl _ _⟩
    have b6 : (K == 6) = false := by simpa using k6
    by_cases k7 : K = 7
    · subst k7
      obtain rfl : R = some (wrap32 (a - b)) := by rw [← HR.out, show o = 7 by have := HK.out; omega]; rfl
      have HC := Lib.hid (fun w => rWrap (a - b) w (by omega) (by omega))
      clear HR HK HT
      go_wp2_with first
        | (go_at_call 81; (with_reducible refine (HC.out _).mono ?_); rintro e1 w1 ⟨rfl, rfl⟩)
      go_ret2
      exact ⟨rfl, Below.refl _ _⟩
    have b7 : (K == 7) = false := by simpa using k7
    by_cases k8 : K = 8
    · subst k8
      obtain rfl : R = some (wrap32 (a * b)) := by rw [← HR.out, show o = 8 by have := HK.out; omega]; rfl
      clear HR HK HT
      go_wp2_with first
        | (go_at_call 82; (with_reducible refine (rMul a b _ HA.out HB.out).mono ?_); unfold mulF rv; rintro e1 w1 ⟨rfl, rfl⟩)
      go_ret2
      exact ⟨rfl, Below.refl _ _⟩
    have b8 : (K == 8) = false := by simpa using k8
    by_cases k9 : K = 9
    · subst k9
      obtain rfl : R = some (bits .and .i32 a b) := by rw [← HR.out, show o = 9 by have := HK.out; omega]; rfl
      have HC : Hid (Calls Tryz.prog 83 #[.int .u8 9, .int .i32 a, .int .i32 b] w (RetV (.int .i32 (bits .and .i32 a b)) w)) := Lib.hid (by rw [← bits_9]; exact rBitwise14 9 a b HA.out HB.out w)
      clear HR HK HT
      go_wp2_with first
        | (go_at_call 83; (with_reducible refine (HC.out).mono ?_); rintro e1 w1 ⟨rfl, hb1⟩)
      go_ret2
      exact ⟨rfl, hb1⟩
    have b9 : (K == 9) = false := by simpa using k9
    by_cases k10 : K = 10
    · subst k10
      obtain rfl : R = some (bits .or .i32 a b) := by rw [← HR.out, show o = 10 by have := HK.out; omega]; rfl
      have HC : Hid (Calls Tryz.prog 83 #[.int .u8 10, .int .i32 a, .int .i32 b] w (RetV (.int .i32 (bits .or .i32 a b)) w)) := Lib.hid (by rw [← bits_10]; exact rBitwise14 10 a b HA.out HB.out w)
      clear HR HK HT
      go_wp2_with first
        | (go_at_call 83; (with_reducible refine (HC.out).mono ?_); rintro e1 w1 ⟨rfl, hb1⟩)
      go_ret2
      exact ⟨rfl, hb1⟩
    have b10 : (K == 10) = false := by simpa using k10
    by_cases k11 : K = 11
    · subst k11
      obtain rfl : R = some (bits .xor .i32 a b) := by rw [← HR.out, show o = 11 by have := HK.out; omega]; rfl
      have HC : Hid (Calls Tryz.prog 83 #[.int .u8 11, .int .i32 a, .int .i32 b] w (RetV (.int .i32 (bits .xor .i32 a b)) w)) := Lib.hid (by rw [← bits_11]; exact rBitwise14 11 a b HA.out HB.out w)
      clear HR HK HT
      go_wp2_with first
        | (go_at_call 83; (with_reducible refine (HC.out).mono ?_); rintro e1 w1 ⟨rfl, hb1⟩)
      go_ret2
      exact ⟨rfl, hb1⟩
    have b11 : (K == 11) = false := by simpa using k11
    by_cases k12 : K = 12
    · subst k12
      obtain rfl : R = some (shlF a b) := by rw [← HR.out, show o = 12 by have := HK.out; omega]; rfl
      clear HR HK HT
      go_wp2_with first
        | (go_at_call 84; (with_reducible refine (rShl a b _ HA.out HB.out).mono ?_); rintro e1 w1 ⟨rfl, rfl⟩)
      go_ret2
      exact ⟨rfl, Below.refl _ _⟩
    have b12 : (K == 12) = false := by simpa using k12
    by_cases k13 : K = 13
    · subst k13
      obtain rfl : R = some (shrF a b) := by rw [← HR.out, show o = 13 by have := HK.out; omega]; rfl
      clear HR HK HT
      go_wp2_with first
        | (go_at_call 85; (with_reducible refine (rShr a b _ HA.out HB.out).mono ?_); rintro e1 w1 ⟨rfl, rfl⟩)
      go_ret2
      exact ⟨rfl, Below.refl _ _⟩
    have b13 : (K == 13) = false := by simpa using k13
    by_cases k14 : K = 14
    · subst k14
      obtain rfl : R = some (truthL (a == b)) := by rw [← HR.out, show o = 14 by have := HK.out; omega]; rfl
      have HC := Lib.hid (fun w => rTruth14 (a == b) w)
      clear HR HK HT
      go_wp2_with first
        | (go_at_call 86; (with_reducible refine (HC.out _).mono ?_); unfold wmO; rintro e1 w1 ⟨rfl, rfl⟩)
      go_ret2
      exact ⟨rfl, Below.refl _ _⟩
    have b14 : (K == 14) = false := by simpa using k14
    by_cases k15 : K = 15
    · subst k15
      obtain rfl : R = some (truthL (a != b)) := by rw [← HR.out, show o = 15 by have := HK.out; omega]; rfl
      have HC := Lib.hid (fun w => rTruth14 (a != b) w)
      clear HR HK HT
      go_wp2_with first
        | (go_at_call 86; (with_reducible refine (HC.out _).mono ?_); unfold wmO; rintro e1 w1 ⟨rfl, rfl⟩)
      go_ret2
      exact ⟨rfl, Below.refl _ _⟩
    have b15 : (K == 15) = false := by simpa using k15
    by_cases k16 : K = 16
    · subst k16
      obtain rfl : R = some (truthL (decide (a < b))) := by rw [← HR.out, show o = 16 by have := HK.out; omega]; rfl
      have HC := Lib.hid (fun w => rTruth14 (decide (a < b)) w)
      clear HR HK HT
      go_wp2_with first
        | (go_at_call 86; (with_reducible refine (HC.out _).mono ?_); unfold wmO; rintro e1 w1 ⟨rfl, rfl⟩)
      go_ret2
      exact ⟨rfl, Below.refl _ _⟩
    have b16 : (K == 16) = false := by simpa using k16
    by_cases k17 : K = 17
    · subst k17
      obtain rfl : R = some (truthL (decide (b < a))) := by rw [← HR.out, show o = 17 by have := HK.out; omega]; rfl
      have HC := Lib.hid (fun w => rTruth14 (decide (b < a)) w)
      clear HR HK HT
      go_wp2_with first
        | (go_at_call 86; (with_reducible refine (HC.out _).mono ?_); unfold wmO; rintro e1 w1 ⟨rfl, rfl⟩)
      go_ret2
      exact ⟨rfl, Below.refl _ _⟩
    have b17 : (K == 17) = false := by simpa using k17
    by_cases k18 : K = 18
    · subst k18
      obtain rfl : R = some (truthL (decide (a ≤ b))) := by rw [← HR.out, show o = 18 by have := HK.out; omega]; rfl
      have HC := Lib.hid (fun w => rTruth14 (decide (a ≤ b)) w)
      clear HR HK HT
      go_wp2_with first
        | (go_at_call 86; (with_reducible refine (HC.out _).mono ?_); unfold wmO; rintro e1 w1 ⟨rfl, rfl⟩)
      go_ret2
      exact ⟨rfl, Below.refl _ _⟩
    have b18 : (K == 18) = false := by simpa using k18
    by_cases k19 : K = 19
    · subst k19
      obtain rfl : R = some (truthL (decide (b ≤ a))) := by rw [← HR.out, show o = 19 by have := HK.out; omega]; rfl
      have HC := Lib.hid (fun w => rTruth14 (decide (b ≤ a)) w)
      clear HR HK HT
      go_wp2_with first
        | (go_at_call 86; (with_reducible refine (HC.out _).mono ?_); unfold wmO; rintro e1 w1 ⟨rfl, rfl⟩)
      go_ret2
      exact ⟨rfl, Below.refl _ _⟩
    have b19 : (K == 19) = false := by simpa using k19
    by_cases k20 : K = 20
    · subst k20
      have HR2 : Hid (R = if T then some (truthL (a == 1 && b == 1)) else none) := Lib.hid (by rw [← HR.out, show o = 20 by have := HK.out; omega, ← HT.out]; rfl)
      clear HR HK HT
      cases T with
      | false =>
        obtain rfl : R = none := HR2.out
        go_wp2
        go_ret2
        exact ⟨rfl, Below.refl _ _⟩
      | true =>
        have HC := Lib.hid (fun z w => rTruth14 z w)
        obtain ⟨za, hza⟩ : ∃ z, (a == 1) = z := ⟨_, rfl⟩
        obtain ⟨zb, hzb⟩ : ∃ z, (b == 1) = z := ⟨_, rfl⟩
        obtain rfl : R = some (truthL (za && zb)) := by rw [HR2.out, ← hza, ← hzb]; rfl
        clear HR2
        cases za <;> cases zb
        all_goals
          go_wp2_with first
            | (go_at_call 86; (with_reducible refine (HC.out _ _).mono ?_); unfold wmO; rintro e1 w1 ⟨rfl, rfl⟩)
          go_ret2
          exact ⟨rfl, Below.refl _ _⟩
    have b20 : (K == 20) = false := by simpa using k20
    by_cases k21 : K = 21
    · subst k21
      have HR2 : Hid (R = if T then some (truthL (a == 1 || b == 1)) else none) := Lib.hid (by rw [← HR.out, show o = 21 by have := HK.out; omega, ← HT.out]; rfl)
      clear HR HK HT
      cases T with
      | false =>
        obtain rfl : R = none := HR2.out
        go_wp2
        go_ret2
        exact ⟨rfl, Below.refl _ _⟩
      | true =>
        have HC := Lib.hid (fun z w => rTruth14 z w)
        obtain ⟨za, hza⟩ : ∃ z, (a == 1) = z := ⟨_, rfl⟩
        obtain ⟨zb, hzb⟩ : ∃ z, (b == 1) = z := ⟨_, rfl⟩
        obtain rfl : R = some (truthL (za || zb)) := by rw [HR2.out, ← hza, ← hzb]; rfl
        clear HR2
        cases za <;> cases zb
        all_goals
          go_wp2_with first
            | (go_at_call 86; (with_reducible refine (HC.out _ _).mono ?_); unfold wmO; rintro e1 w1 ⟨rfl, rfl⟩)
          go_ret2
          exact ⟨rfl, Below.refl _ _⟩
    have b21 : (K == 21) = false := by simpa using k21
    by_cases k22 : K = 22
    · subst k22
      obtain rfl : R = some (truthL (decide (0 < wrap32 (a - b)))) := by rw [← HR.out, show o = 22 by have := HK.out; omega]; rfl
      clear HR HK HT
      go_wp2_with first
        | (go_at_call 87; (with_reducible refine (rAfter a b _ HA.out HB.out).mono ?_); rintro e1 w1 ⟨rfl, rfl⟩)
        | (go_at_call 86; (with_reducible refine (rTruth14 _ _).mono ?_); unfold wmO; rintro e2 w2 ⟨rfl, rfl⟩)
      go_ret2
      exact ⟨rfl, Below.refl _ _⟩
    have b22 : (K == 22) = false := by simpa using k22
    by_cases k23 : K = 23
    · subst k23
      obtain rfl : R = someO (wrap32 (-a), wrap32 (-a) != -a) := by rw [← HR.out, show o = 23 by have := HK.out; omega]; (show someO (wrap32 (0 - a), wrap32 (0 - a) != 0 - a) = _); rw [Int.zero_sub]
      have HC := Lib.hid (fun w => rFit14 (-a) ⟨by omega, by omega⟩ w)
      unfold wmO at HC
      clear HR HK HT
      go_wp2_with first
        | (go_at_call 77; (with_reducible refine (HC.out _).mono ?_); rintro e1 w1 ⟨rfl, rfl⟩)
      go_ret2
      exact ⟨rfl, Below.refl _ _⟩
    have b23 : (K == 23) = false := by simpa using k23
    by_cases k24 : K = 24
    · subst k24
      obtain rfl : R = some (wrap32 (-a)) := by rw [← HR.out, show o = 24 by have := HK.out; omega]; (show some (wrap32 (0 - a)) = _); rw [Int.zero_sub]
      have HC := Lib.hid (fun w => rWrap (-a) w (by omega) (by omega))
      clear HR HK HT
      go_wp2_with first
        | (go_at_call 81; (with_reducible refine (HC.out _).mono ?_); rintro e1 w1 ⟨rfl, rfl⟩)
      go_ret2
      exact ⟨rfl, Below.refl _ _⟩
    have b24 : (K == 24) = false := by simpa using k24
    by_cases k25 : K = 25
    · subst k25
      obtain rfl : R = some (-1 - a) := by rw [← HR.out, show o = 25 by have := HK.out; omega]; rfl
      have HC : Hid (Calls Tryz.prog 83 #[.int .u8 25, .int .i32 a, .int .i32 b] w (RetV (.int .i32 (-1 - a)) w)) := Lib.hid (rNot14 HA.out HB.out w)
      clear HR HK HT
      go_wp2_with first
        | (go_at_call 83; (with_reducible refine (HC.out).mono ?_); rintro e1 w1 ⟨rfl, hb1⟩)
      go_ret2
      exact ⟨rfl, hb1⟩
    have b25 : (K == 25) = false := by simpa using k25
    by_cases k26 : K = 26
    · subst k26
      have HR2 : Hid (R = if bit01 a then some (truthL (a == 0)) else none) := Lib.hid (by rw [← HR.out, show o = 26 by have := HK.out; omega]; rfl)
      clear HR HK HT
      have hbb : (a == 0) = true ∧ (a != 0) = false ∨ ((a == 0) = false ∧ (a != 0) = true ∧ (a == 1) = true ∧ (a != 1) = false) ∨ ((a == 0) = false ∧ (a != 0) = true ∧ (a == 1) = false ∧ (a != 1) = true) := by
        unfold bne
        cases (a == 0) <;> cases (a == 1) <;> simp
      have HC := Lib.hid (fun z w => rTruth14 z w)
      rcases hbb with ⟨a0, n0⟩ | ⟨a0, n0, a1, n1⟩ | ⟨a0, n0, a1, n1⟩
      · have HV : Hid (R = some (truthL true)) := Lib.hid (by rw [HR2.out]; unfold bit01; rw [a0]; rfl)
        clear HR2
        obtain rfl := HV.out
        go_wp2_with first
          | (go_at_call 86; (with_reducible refine (HC.out _ _).mono ?_); unfold wmO; rintro e1 w1 ⟨rfl, rfl⟩)
        go_ret2
        exact ⟨rfl, Below.refl _ _⟩
      · have HV : Hid (R = some (truthL false)) := Lib.hid (by rw [HR2.out]; unfold bit01; rw [a0, a1]; rfl)
        clear HR2
        obtain rfl := HV.out
        go_wp2_with first
          | (go_at_call 86; (with_reducible refine (HC.out _ _).mono ?_); unfold wmO; rintro e1 w1 ⟨rfl, rfl⟩)
        go_ret2
        exact ⟨rfl, Below.refl _ _⟩
      · have HV : Hid (R = none) := Lib.hid (by rw [HR2.out]; unfold bit01; rw [a0, a1]; rfl)
        clear HR2
        obtain rfl := HV.out
        go_wp2
        go_ret2
        exact ⟨rfl, Below.refl _ _⟩
    have b26 : (K == 26) = false := by simpa using k26
    obtain rfl : R = none := by
      rw [← HR.out]
      have hk := HK.out
      unfold applyO
      repeat rw [if_neg (by omega)]
      by_cases h0 : o = 0
      · rw [if_pos h0]
      · repeat rw [if_neg (by omega)]
    clear HR HK HT
    go_wp2
    go_ret2
    exact ⟨rfl, Below.refl _ _⟩
end Go.Proofs.YtbefmlioampgcaaGreatDoor
