/- Number of the reference, walked. -/
import Derived.Test.YtjnngeakdclkbaaDoorHB3
import Derived.Test.YtjnngeakdclkbaaDoorHK8
namespace Go.Proofs.YtjnngeakdclkbaaDoor
open Go.RowKit Go.Maps Go.WideMaps Go.Shelf
set_option linter.unusedSimpArgs false
set_option linter.unusedVariables false

theorem conv_one (w : World) (z : Int) : (convert 36 9 (.slice (some ⟨w.heap.size, 0, none⟩) 1 1)).run Tryd.prog (w.alloc (.cells #[.int .u8 z] 5)) = .ok (.string (strB [UInt8.ofNat z.toNat])) (w.alloc (.cells #[.int .u8 z] 5)) := by
  rw [run_convert_bytes_string _ _ _ _ _ 1 1 Tryd.underlying36 Tryd.underlying5 Tryd.underlying9]
  have hl := run_loadCells_list (P := Tryd.prog) (w.alloc (.cells #[.int .u8 z] 5)) ⟨w.heap.size, 0, none⟩ (([z] : List Int).map (Value.int .u8)) (fun j v hj => by
    have hj0 : j = 0 := by
      have := (List.getElem?_eq_some_iff.1 hj).1
      simp at this; exact this
    subst hj0
    have e : (⟨w.heap.size, 0, none⟩ : Addr).add 0 = ⟨w.heap.size, 0, none⟩ := rfl
    rw [e, (Blk.new w 5 #[.int .u8 z]).cell 0]
    simpa using hj)
  simp only [List.length_map, List.length_cons, List.length_nil] at hl
  rw [run_bytesToString _ ⟨w.heap.size, 0, none⟩ 1 1 [z] hl]
  rfl
theorem strB_pre (c : UInt8) (l : List UInt8) : strB [c] ++ strB l = strB (c :: l) := by rw [str_append]; rfl
theorem bnil_app (a : ByteArray) : ({ data := #[] } : ByteArray) ++ a = a := by
  apply ByteArray.ext
  simp [ByteArray.data_append]
set_option maxRecDepth 100000 in
set_option maxHeartbeats 2000000 in
theorem rNum_loop (t : Nat) (ht : t ≤ 2147483648) (v : Int) (hv : is32 v) (hab : (v < 0 ∧ t = (-v).toNat) ∨ (0 ≤ v ∧ t = v.toNat)) (w : World) : Calls Tryd.prog 51 #[.int .i32 v] w (RetV (.string (strB (textL v false))) w) := by
  obtain ⟨v0, v1⟩ := hv
  have hcv := conv_one
  have hT : textL v false = Lib.itoa v := rfl
  rw [hT]
  have dstep : ∀ (k : Nat), strB [UInt8.ofNat (48 + t / 10 ^ k % 10)] ++ strB (digL 10 k t) = strB (digL 10 (k + 1) t) := fun k => by
    rw [← dig_dec _ (Nat.mod_lt _ (by decide)), strB_pre]; rfl
  have dzero : strB [UInt8.ofNat (48 + t % 10)] = strB (digL 10 1 t) := by
    have := dstep 0
    rw [Nat.pow_zero, Nat.div_one] at this
    rw [← this, show digL 10 0 t = [] from rfl, show strB [] = { data := #[] } from rfl, bapp_nil]
  have dend : ∀ k, (k = 0 ∨ 10 ^ k ≤ t) → t / 10 ^ (k + 1) = 0 → strB (digL 10 (k + 1) t) = strB (Lib.decDigits t) := fun k h1 h2 => by
    rw [dec_unique h1 ((Nat.div_eq_zero_iff_lt (Nat.pow_pos (by decide))).1 h2)]
  have dnext : ∀ k, t / 10 ^ (k + 1) / 10 = t / 10 ^ (k + 1 + 1) := fun k => by rw [Nat.pow_succ 10 (k + 1), Nat.div_div_eq_div_mul]
  have dge : ∀ k, 0 < t / 10 ^ (k + 1) → 10 ^ (k + 1) ≤ t := fun k h => by
    rcases Nat.lt_or_ge t (10 ^ (k + 1)) with h2 | h2
    · rw [Nat.div_eq_of_lt h2] at h; omega
    · exact h2
  have dsz : ∀ k, (strB (digL 10 k t)).size = k := fun k => digL_length 10 k t
  have dk : ∀ k, 0 < t / 10 ^ (k + 1) → k < 40 := fun k h => by have := pow_base 10 (k + 1) t (.inl rfl) (by omega) h; omega
  have DS := Lib.hid dstep
  have DZ := Lib.hid dzero
  have DE := Lib.hid dend
  have DN := Lib.hid dnext
  have DG := Lib.hid dge
  have DL := Lib.hid dsz
  have DK := Lib.hid dk
  clear dstep dzero dend dnext dge dsz dk hT
  have start : ∀ (W : World), W.heap.size = W.heap.size := fun _ => rfl
  rcases hab with ⟨hneg, rfl⟩ | ⟨hpos, rfl⟩
  · have hit : strB (Lib.itoa v) = ⟨#[45]⟩ ++ strB (Lib.decDigits (-v).toNat) := by
      rw [itoa_neg' hneg, show v.natAbs = (-v).toNat by omega]
      exact (str_append [45] _).symm
    rw [hit]
    obtain ⟨t, hte⟩ : ∃ t, (-v).toNat = t := ⟨_, rfl⟩
    rw [hte] at DS DZ DE DN DG DL DK ht ⊢
    have hvt : v = -(t : Int) := by omega
    subst hvt
    have ht0 : ¬ (t : Int) < 0 := by omega
    have hneg' : -(t : Int) < 0 := hneg
    have htpos : (0 : Int) < t := by omega
    have hz0 : strB [UInt8.ofNat (48 + (t : Int) % 10).toNat] = strB (digL 10 1 t) := by
      rw [← DZ.out, show (48 + (t : Int) % 10).toNat = 48 + t % 10 by omega]
    have hcv0 : ∀ (w : World), (convert 36 9 (.slice (some ⟨w.heap.size, 0, none⟩) 1 1)).run Tryd.prog (w.alloc (.cells #[.int .u8 (48 + (t : Int) % 10)] 5)) = .ok (.string (strB (digL 10 1 t))) (w.alloc (.cells #[.int .u8 (48 + (t : Int) % 10)] 5)) := fun w => by rw [← hz0]; exact conv_one w _
    have hd1 : ((t / 10 : Nat) : Int) = (t : Int) / 10 := by omega
    have h0 : (0 : Int) ≤ (t : Int) % 10 := by omega
    have h10 : (t : Int) % 10 ≤ 9 := by omega
    have K0 : ∀ z, Below w.heap.size w (w.alloc (.cells #[.int .u8 z] 5)) := fun z => (Below.refl _ _).alloc (Nat.le_refl _) _
    have KK := Lib.hid K0
    have D1 := Lib.hid hd1
    clear hte hit hneg hz0 hcv start DZ hd1 K0
    go_enter Tryd.func51, Tryd.ntmps51
    go_wp2
    have K1 := Lib.hid (KK.out (48 + (t : Int) % 10))
    go_loopw [3, 5] (fun x s wr => ∃ k : Nat, x = .int .i64 ((t / 10 ^ (k + 1) : Nat) : Int) ∧ s = .string (strB (digL 10 (k + 1) t)) ∧ Hid (k = 0 ∨ 10 ^ k ≤ t) ∧ Hid (Below w.heap.size w wr)) (fun x _ _ => (intOf x).toNat)
    case atStart => exact ⟨0, by rw [Nat.pow_one, D1.out], rfl, Lib.hid (.inl rfl), K1⟩
    case round =>
      clear K1 KK hcv0 D1 h0 h10
      obtain ⟨k, rfl, rfl, HK, K⟩ := hrel
      have dg := DG.out k
      have dn := DN.out k
      have ds := DS.out (k + 1)
      have dz := DL.out (k + 1)
      have dk := DK.out k
      have de := DE.out k HK.out
      have hxt : ((t / 10 ^ (k + 1) : Nat) : Int) ≤ 2147483648 := by have := Nat.div_le_self t (10 ^ (k + 1)); omega
      have hkt : k ≤ 2147483648 := by
        rcases HK.out with h | h
        · omega
        · have : k < 10 ^ k := Nat.lt_pow_self (by decide)
          omega
      generalize t / 10 ^ (k + 1) = x at *
      generalize strB (digL 10 (k + 1) t) = S at *
      by_cases hx : 0 < x
      · have hxI : (0 : Int) < x := by omega
        have hk40 := dk hx
        have hn1 : ((x / 10 : Nat) : Int) = (x : Int) / 10 := by omega
        have hcv1 : ∀ (w : World), (convert 36 9 (.slice (some ⟨w.heap.size, 0, none⟩) 1 1)).run Tryd.prog (w.alloc (.cells #[.int .u8 (48 + (x : Int) % 10)] 5)) = .ok (.string (strB [UInt8.ofNat (48 + x % 10)])) (w.alloc (.cells #[.int .u8 (48 + (x : Int) % 10)] 5)) := fun w => by
          rw [conv_one w, show (48 + (x : Int) % 10).toNat = 48 + x % 10 by omega]
        have h0 : (0 : Int) ≤ (x : Int) % 10 := by omega
        have h10 : (x : Int) % 10 ≤ 9 := by omega
        have hs1 : (strB [UInt8.ofNat (48 + x % 10)]).size = 1 := rfl
        have hcc : ¬ 9223372036854775807 < (strB [UInt8.ofNat (48 + x % 10)]).size + S.size := by rw [hs1, dz]; omega
        have NEW := Lib.hid (And.intro hn1 (And.intro dn (And.intro ds (And.intro (dg hx) (K.out.alloc K.out.size (.cells #[.int .u8 (48 + (x : Int) % 10)] 5))))))
        have hxle : (x : Int) ≤ 2147483648 ∨ True := .inr trivial
        clear dg dn ds dk de hn1 hxle
        generalize strB [UInt8.ofNat (48 + x % 10)] = C at *
        go_wp2
        go_roundw
        case rel =>
          obtain ⟨e1, e2, e3, e4, e5⟩ := NEW.out
          exact ⟨k + 1, by rw [← e2, e1], by rw [e3], Lib.hid (.inr e4), Lib.hid e5⟩
        case measure => simp [intOf]; omega
      · have hxI : ¬ (0 : Int) < x := by omega
        have hd := Lib.hid (de (by omega))
        clear dg dn ds dk de
        have hcc : ¬ 9223372036854775807 < 1 + S.size := by rw [dz]; omega
        go_wp2
        go_ret
        exact ⟨by rw [hd.out]; rfl, K.out⟩
  · have hit : strB (Lib.itoa v) = strB (Lib.decDigits v.toNat) := by rw [itoa_pos hpos]
    rw [hit]
    obtain ⟨t, hte⟩ : ∃ t, v.toNat = t := ⟨_, rfl⟩
    rw [hte] at DS DZ DE DN DG DL DK ht ⊢
    have hvt : v = (t : Int) := by omega
    subst hvt
    have hneg' : ¬ (t : Int) < 0 := by omega
    have hz0 : strB [UInt8.ofNat (48 + (t : Int) % 10).toNat] = strB (digL 10 1 t) := by
      rw [← DZ.out, show (48 + (t : Int) % 10).toNat = 48 + t % 10 by omega]
    have hcv0 : ∀ (w : World), (convert 36 9 (.slice (some ⟨w.heap.size, 0, none⟩) 1 1)).run Tryd.prog (w.alloc (.cells #[.int .u8 (48 + (t : Int) % 10)] 5)) = .ok (.string (strB (digL 10 1 t))) (w.alloc (.cells #[.int .u8 (48 + (t : Int) % 10)] 5)) := fun w => by rw [← hz0]; exact conv_one w _
    have hd1 : ((t / 10 : Nat) : Int) = (t : Int) / 10 := by omega
    have h0 : (0 : Int) ≤ (t : Int) % 10 := by omega
    have h10 : (t : Int) % 10 ≤ 9 := by omega
    have K0 : ∀ z, Below w.heap.size w (w.alloc (.cells #[.int .u8 z] 5)) := fun z => (Below.refl _ _).alloc (Nat.le_refl _) _
    have KK := Lib.hid K0
    have D1 := Lib.hid hd1
    clear hte hit hpos hz0 hcv start DZ hd1 K0
    go_enter Tryd.func51, Tryd.ntmps51
    go_wp2
    have K1 := Lib.hid (KK.out (48 + (t : Int) % 10))
    go_loopw [3, 5] (fun x s wr => ∃ k : Nat, x = .int .i64 ((t / 10 ^ (k + 1) : Nat) : Int) ∧ s = .string (strB (digL 10 (k + 1) t)) ∧ Hid (k = 0 ∨ 10 ^ k ≤ t) ∧ Hid (Below w.heap.size w wr)) (fun x _ _ => (intOf x).toNat)
    case atStart => exact ⟨0, by rw [Nat.pow_one, D1.out], rfl, Lib.hid (.inl rfl), K1⟩
    case round =>
      clear K1 KK hcv0 D1 h0 h10
      obtain ⟨k, rfl, rfl, HK, K⟩ := hrel
      have dg := DG.out k
      have dn := DN.out k
      have ds := DS.out (k + 1)
      have dz := DL.out (k + 1)
      have dk := DK.out k
      have de := DE.out k HK.out
      have hxt : ((t / 10 ^ (k + 1) : Nat) : Int) ≤ 2147483648 := by have := Nat.div_le_self t (10 ^ (k + 1)); omega
      have hkt : k ≤ 2147483648 := by
        rcases HK.out with h | h
        · omega
        · have : k < 10 ^ k := Nat.lt_pow_self (by decide)
          omega
      generalize t / 10 ^ (k + 1) = x at *
      generalize strB (digL 10 (k + 1) t) = S at *
      by_cases hx : 0 < x
      · have hxI : (0 : Int) < x := by omega
        have hk40 := dk hx
        have hn1 : ((x / 10 : Nat) : Int) = (x : Int) / 10 := by omega
        have hcv1 : ∀ (w : World), (convert 36 9 (.slice (some ⟨w.heap.size, 0, none⟩) 1 1)).run Tryd.prog (w.alloc (.cells #[.int .u8 (48 + (x : Int) % 10)] 5)) = .ok (.string (strB [UInt8.ofNat (48 + x % 10)])) (w.alloc (.cells #[.int .u8 (48 + (x : Int) % 10)] 5)) := fun w => by
          rw [conv_one w, show (48 + (x : Int) % 10).toNat = 48 + x % 10 by omega]
        have h0 : (0 : Int) ≤ (x : Int) % 10 := by omega
        have h10 : (x : Int) % 10 ≤ 9 := by omega
        have hs1 : (strB [UInt8.ofNat (48 + x % 10)]).size = 1 := rfl
        have hcc : ¬ 9223372036854775807 < (strB [UInt8.ofNat (48 + x % 10)]).size + S.size := by rw [hs1, dz]; omega
        have NEW := Lib.hid (And.intro hn1 (And.intro dn (And.intro ds (And.intro (dg hx) (K.out.alloc K.out.size (.cells #[.int .u8 (48 + (x : Int) % 10)] 5))))))
        have hxle : (x : Int) ≤ 2147483648 ∨ True := .inr trivial
        clear dg dn ds dk de hn1 hxle
        generalize strB [UInt8.ofNat (48 + x % 10)] = C at *
        go_wp2
        go_roundw
        case rel =>
          obtain ⟨e1, e2, e3, e4, e5⟩ := NEW.out
          exact ⟨k + 1, by rw [← e2, e1], by rw [e3], Lib.hid (.inr e4), Lib.hid e5⟩
        case measure => simp [intOf]; omega
      · have hxI : ¬ (0 : Int) < x := by omega
        have hd := Lib.hid (de (by omega))
        clear dg dn ds dk de
        have hcc : ¬ 9223372036854775807 < 1 + S.size := by rw [dz]; omega
        go_wp2
        go_ret
        exact ⟨by rw [← hd.out]; exact congrArg (fun x => Ending.returned (.string x)) (bnil_app S), K.out⟩
theorem rNumber (v : Int) (hv : is32 v) (w : World) : Calls Tryd.prog 51 #[.int .i32 v] w (RetV (.string (strB (textL v false))) w) := by
  unfold is32 at hv
  by_cases h : v < 0
  · exact rNum_loop (-v).toNat (by omega) v hv (.inl ⟨h, rfl⟩) w
  · exact rNum_loop v.toNat (by omega) v hv (.inr ⟨by omega, rfl⟩) w
end Go.Proofs.YtjnngeakdclkbaaDoor
