/- Texts that belong together, joined: what each one holds is told ahead of it. -/
import Derived.Test.YtjnngeakdclkbaaGreatDoorHK1
import Derived.Test.YtjnngeakdclkbaaGreatDoorHK7
import Derived.Test.YtjnngeakdclkbaaGreatDoorHK8
set_option linter.unusedVariables false
set_option linter.unusedSimpArgs false
/- An instruction's bytes are decoded as that instruction, whatever follows. -/
namespace Go.Proofs.YtjnngeakdclkbaaGreatDoor

/-- The state of the operand behind a prefix byte. -/
def pfxS (o : Int) (c : UInt8) : Int := if c.toNat / 16 = 2 then 16 * (o + (c.toNat % 16 : Nat)) else 16 * (-1 - (o + (c.toNat % 16 : Nat)))
def isPfx (c : UInt8) : Bool := c.toNat / 16 == 2 || c.toNat / 16 == 6
theorem byte_nat {fn d : Nat} (h1 : fn < 16) (h2 : d < 16) : (UInt8.ofNat (16 * fn + d)).toNat = 16 * fn + d := by
  rw [UInt8.toNat_ofNat']; exact Nat.mod_eq_of_lt (by omega)
theorem byte_parts {fn d : Nat} (h1 : fn < 16) (h2 : d < 16) : (UInt8.ofNat (16 * fn + d)).toNat / 16 = fn ∧ (UInt8.ofNat (16 * fn + d)).toNat % 16 = d := by
  rw [byte_nat h1 h2]; omega
/-- The bytes of a prefix. -/
theorem encF_pfx : ∀ (k m : Nat), m < 16 ^ (k + 1) → (∀ c ∈ encF k 2 m, isPfx c = true) ∧ (encF k 2 m).foldl pfxS 0 = 16 * (m : Int)
  | 0, m, h => by
    have hm : m < 16 := by simpa using h
    obtain ⟨h1, h2⟩ := byte_parts (fn := 2) (d := m % 16) (by omega) (by omega)
    refine ⟨fun c hc => ?_, ?_⟩
    · rw [encF, List.mem_singleton] at hc
      rw [hc]; unfold isPfx; rw [h1]; rfl
    · rw [encF, List.foldl_cons, List.foldl_nil, pfxS, h1, h2, if_pos rfl]; omega
  | k + 1, m, h => by
    obtain ⟨h1, h2⟩ := byte_parts (fn := 2) (d := m % 16) (by omega) (by omega)
    rw [encF]
    split
    · obtain ⟨a, b⟩ := encF_pfx k (m / 16) (by rw [Nat.div_lt_iff_lt_mul (by decide)]; rw [Nat.pow_succ] at h; exact h)
      refine ⟨fun c hc => ?_, ?_⟩
      · rcases List.mem_append.1 hc with hc | hc
        · exact a c hc
        · rw [List.mem_singleton.1 hc]; unfold isPfx; rw [h1]; rfl
      · rw [List.foldl_append, b, List.foldl_cons, List.foldl_nil, pfxS, h1, h2, if_pos rfl]; omega
    · refine ⟨fun c hc => ?_, ?_⟩
      · rw [List.mem_singleton] at hc
        rw [hc]; unfold isPfx; rw [h1]; rfl
      · rw [List.foldl_cons, List.foldl_nil, pfxS, h1, h2, if_pos rfl]; omega
/-- An instruction's bytes: prefixes, and a last one. -/
theorem encI_parts (fn : Nat) (v : Int) (_ : fn < 16) (hv : -2147483648 ≤ v ∧ v ≤ 2147483647) : ∃ p, encI fn v = p ++ [UInt8.ofNat (16 * fn + (v % 16).toNat)] ∧ (∀ c ∈ p, isPfx c = true) ∧ p.foldl pfxS 0 + v % 16 = v ∧ p.foldl pfxS 0 % 16 = 0 := by
  unfold encI
  by_cases h : v < 0
  · rw [if_pos h]
    obtain ⟨m, hm⟩ : ∃ m : Nat, (-1 - v) / 16 = m := ⟨((-1 - v) / 16).toNat, by omega⟩
    rw [hm, Int.toNat_natCast]
    have hm2 : m < 134217728 := by omega
    have h16 : 16 ^ (7 + 1) = 4294967296 := by decide
    obtain ⟨b1, b2⟩ := byte_parts (fn := 6) (d := m % 16) (by omega) (by omega)
    refine ⟨encF 8 6 m, rfl, ?_⟩
    have key : (∀ c ∈ encF 8 6 m, isPfx c = true) ∧ (encF 8 6 m).foldl pfxS 0 = 16 * (-1 - (m : Int)) := by
      rw [encF]
      split
      · obtain ⟨a, b⟩ := encF_pfx 7 (m / 16) (by omega)
        refine ⟨fun c hc => ?_, ?_⟩
        · rcases List.mem_append.1 hc with hc | hc
          · exact a c hc
          · rw [List.mem_singleton.1 hc]; unfold isPfx; rw [b1]; rfl
        · rw [List.foldl_append, b, List.foldl_cons, List.foldl_nil, pfxS, b1, b2, if_neg (by decide)]; omega
      · refine ⟨fun c hc => ?_, ?_⟩
        · rw [List.mem_singleton] at hc
          rw [hc]; unfold isPfx; rw [b1]; rfl
        · rw [List.foldl_cons, List.foldl_nil, pfxS, b1, b2, if_neg (by decide)]; omega
    refine ⟨key.1, by rw [key.2]; omega, by rw [key.2]; omega⟩
  · rw [if_neg h]
    obtain ⟨m, rfl⟩ := Int.eq_ofNat_of_zero_le (show 0 ≤ v by omega)
    rw [Int.toNat_natCast]
    have e : (((m : Int) % 16).toNat) = m % 16 := by omega
    rw [e, encF]
    have h16 : 16 ^ (7 + 1) = 4294967296 := by decide
    split
    · obtain ⟨a, b⟩ := encF_pfx 7 (m / 16) (by omega)
      exact ⟨_, rfl, a, by rw [b]; omega, by rw [b]; omega⟩
    · exact ⟨[], rfl, (fun c hc => by cases hc), (by rw [List.foldl_nil]; omega), rfl⟩
/-- The states of the operand stay words. -/
theorem encI_small (fn : Nat) (v : Int) (hv : -2147483648 ≤ v ∧ v ≤ 2147483647) : (encI fn v).length ≤ 8 := by rw [encI_len]; exact lenV_le hv
end Go.Proofs.YtjnngeakdclkbaaGreatDoor

/- Label of the reference, walked. -/
namespace Go.Proofs.YtjnngeakdclkbaaGreatDoor
open Go.RowKit Go.Maps Go.WideMaps Go.Shelf
set_option linter.unusedSimpArgs false
set_option linter.unusedVariables false

theorem letter_cases (c : UInt8) : let n := (c.toNat : Int)
    (97 ≤ n ∧ n ≤ 122 ∧ letterB c = true) ∨ (97 ≤ n ∧ ¬ n ≤ 122 ∧ 65 ≤ n ∧ ¬ n ≤ 90 ∧ letterB c = false) ∨ (¬ 97 ≤ n ∧ 65 ≤ n ∧ n ≤ 90 ∧ letterB c = true) ∨
    (¬ 97 ≤ n ∧ 65 ≤ n ∧ ¬ n ≤ 90 ∧ letterB c = false) ∨ (¬ 97 ≤ n ∧ ¬ 65 ≤ n ∧ letterB c = false) := by
  have h : ∀ n : Nat, n < 256 → ((97 ≤ (n : Int) ∧ (n : Int) ≤ 122 ∧ letterB (UInt8.ofNat n) = true) ∨ (97 ≤ (n : Int) ∧ ¬ (n : Int) ≤ 122 ∧ 65 ≤ (n : Int) ∧ ¬ (n : Int) ≤ 90 ∧ letterB (UInt8.ofNat n) = false) ∨ (¬ 97 ≤ (n : Int) ∧ 65 ≤ (n : Int) ∧ (n : Int) ≤ 90 ∧ letterB (UInt8.ofNat n) = true) ∨
    (¬ 97 ≤ (n : Int) ∧ 65 ≤ (n : Int) ∧ ¬ (n : Int) ≤ 90 ∧ letterB (UInt8.ofNat n) = false) ∨ (¬ 97 ≤ (n : Int) ∧ ¬ 65 ≤ (n : Int) ∧ letterB (UInt8.ofNat n) = false)) := by decide +kernel
  have := h c.toNat c.toNat_lt_size
  rwa [UInt8.ofNat_toNat] at this
theorem other_cases (c : UInt8) : let n := (c.toNat : Int)
    (48 ≤ n ∧ n ≤ 57 ∧ otherB c = true) ∨ (48 ≤ n ∧ ¬ n ≤ 57 ∧ (n == 46) = false ∧ otherB c = false) ∨ (¬ 48 ≤ n ∧ (n == 46) = true ∧ otherB c = true) ∨ (¬ 48 ≤ n ∧ (n == 46) = false ∧ otherB c = false) := by
  have h : ∀ n : Nat, n < 256 → ((48 ≤ (n : Int) ∧ (n : Int) ≤ 57 ∧ otherB (UInt8.ofNat n) = true) ∨ (48 ≤ (n : Int) ∧ ¬ (n : Int) ≤ 57 ∧ ((n : Int) == 46) = false ∧ otherB (UInt8.ofNat n) = false) ∨ (¬ 48 ≤ (n : Int) ∧ ((n : Int) == 46) = true ∧ otherB (UInt8.ofNat n) = true) ∨
    (¬ 48 ≤ (n : Int) ∧ ((n : Int) == 46) = false ∧ otherB (UInt8.ofNat n) = false)) := by decide +kernel
  have := h c.toNat c.toNat_lt_size
  rwa [UInt8.ofNat_toNat] at this
theorem bytes_at {S : ByteArray} {k : Nat} (h : k < S.size) : ∃ d, S.data.toList[k]? = some d ∧ S[k] = d := by
  have hl : k < S.data.toList.length := by rw [str_size]; exact h
  refine ⟨S.data.toList[k], List.getElem?_eq_getElem hl, ?_⟩
  simp [ByteArray.getElem_eq_getElem_data]
set_option maxRecDepth 100000 in
set_option maxHeartbeats 4000000 in
theorem rLabel (S : ByteArray) (hs : S.size ≤ 281474976710656) (w : World) : Calls Tryz.prog 37 #[.string S] w (RetV (.bool (labelB S.data.toList)) w) := by
  have HS := Lib.hid hs
  go_enter Tryz.func37, Tryz.ntmps37
  go_wp2
  go_loop [3] (fun p => ∃ i : Nat, i ≤ S.size ∧ p = .int .i64 (i : Int) ∧ Hid (∀ j c, j < i → S.data.toList[j]? = some c → fitB j c = true)) (fun p => S.size - (intOf p).toNat)
  case atStart => exact ⟨0, by omega, rfl, Lib.hid (by intro j c h; omega)⟩
  case round =>
    obtain ⟨i, hi, rfl, Hi⟩ := hrel
    by_cases hlt : i < S.size
    · have hltI : (i : Int) < S.size := by omega
      have hi0 : (0 : Int) ≤ i := by omega
      obtain ⟨c, hcg, hget⟩ := bytes_at hlt
      have HG := Lib.hid hcg
      have w1 : IntKind.i64.wrap ((i : Int) + 1) = (i : Int) + 1 := IntWalk.i64_in _ (by have := HS.out; omega)
      clear hcg hs
      have on : fitB i c = true → ∀ j d, j < i + 1 → S.data.toList[j]? = some d → fitB j d = true := by
        intro hf j d hj hd
        by_cases h : j = i
        · subst h; rw [HG.out] at hd; injection hd with hd; subst hd; exact hf
        · exact Hi.out j d (by omega) hd
      have no : fitB i c = false → labelB S.data.toList = false := fun hf => label_no HG.out hf
      have ON := Lib.hid on
      have NO := Lib.hid no
      clear on no
      have hl := letter_cases c
      have ho := other_cases c
      simp only at hl ho
      have hiz : ((i : Int) == 0) = true ∨ ((i : Int) == 0) = false := by cases ((i : Int) == 0) <;> simp
      have hizn : ((i : Int) == 0) = (i == 0) := by rw [Bool.eq_iff_iff]; simp
      have HZ := Lib.hid hizn
      clear hizn
      have hfit : fitB i c = (letterB c || (!(i == 0) && otherB c)) := rfl
      generalize letterB c = lb at *
      generalize otherB c = ob at *
      have HF := Lib.hid hfit
      clear hfit
      obtain ⟨m, hm⟩ : ∃ m, (c.toNat : Int) = m := ⟨_, rfl⟩
      rw [hm] at hl ho
      generalize fitB i c = ft at *
      go_upto_region 4 with (fail)
      go_cut [4] (fun s4 wx => s4 = .bool lb ∧ wx = w)
      case first =>
        rcases hl with ⟨h1, h2, h3⟩ | ⟨h1, h2, h4, h5, h3⟩ | ⟨h1, h2, h4, h3⟩ | ⟨h1, h2, h4, h3⟩ | ⟨h1, h2, h3⟩
        all_goals
          go_wp2
          go_meet
          exact ⟨by rw [h3], rfl⟩
      case rest =>
        obtain ⟨rfl, rfl⟩ := hcut
        go_upto_region 5 with (fail)
        go_cut [5] (fun s5 wx => s5 = .bool ob ∧ wx = wc)
        case first =>
          rcases ho with ⟨o1, o2, o3⟩ | ⟨o1, o2, o4, o3⟩ | ⟨o1, o2, o3⟩ | ⟨o1, o2, o3⟩
          all_goals
            go_wp2
            go_meet
            exact ⟨by rw [o3], rfl⟩
        case rest =>
          obtain ⟨rfl, rfl⟩ := hcut
          clear hl ho
          cases lb
          · rcases hiz with hz | hz
            · have hno := Lib.hid (NO.out (by rw [HF.out, ← HZ.out, hz]; rfl))
              clear NO ON HF HZ
              go_wp2
              go_ret
              exact ⟨by rw [hno.out]; rfl, Below.refl _ _⟩
            · cases ob
              · have hno := Lib.hid (NO.out (by rw [HF.out, ← HZ.out, hz]; rfl))
                clear NO ON HF HZ
                go_wp2
                go_ret
                exact ⟨by rw [hno.out]; rfl, Below.refl _ _⟩
              · have hon := Lib.hid (ON.out (by rw [HF.out, ← HZ.out, hz]; rfl))
                clear NO ON HF HZ
                go_wp2
                go_round
                case rel => exact ⟨i + 1, by omega, by go_num, hon⟩
                case measure => simp [intOf]; omega
          · have hon := Lib.hid (ON.out (by rw [HF.out]; rfl))
            clear NO ON HF HZ
            go_wp2
            go_round
            case rel => exact ⟨i + 1, by omega, by go_num, hon⟩
            case measure => simp [intOf]; omega
    · have hltI : ¬ (i : Int) < S.size := by omega
      obtain rfl : i = S.size := by omega
      have hend := label_end (S := S) Hi.out
      have HE := Lib.hid hend
      clear hend Hi
      by_cases h0 : 1 ≤ (S.size : Int)
      · have hlab : labelB S.data.toList = decide ((S.size : Int) ≤ 32) := by
          rw [HE.out]
          have h1 : (S.size == 0) = false := by rw [beq_eq_false_iff_ne]; omega
          have h2 : decide ((S.size : Int) ≤ 32) = decide (S.size ≤ 32) := by rw [decide_eq_decide]; omega
          rw [h1, h2]; rfl
        have HL := Lib.hid hlab
        clear hlab HE
        go_wp2
        go_ret
        exact ⟨by rw [HL.out]; rfl, Below.refl _ _⟩
      · have hlab : labelB S.data.toList = false := by
          rw [HE.out]
          have h1 : (S.size == 0) = true := by rw [beq_iff_eq]; omega
          rw [h1]; rfl
        have HL := Lib.hid hlab
        clear hlab HE
        go_wp2
        go_ret
        exact ⟨by rw [HL.out]; rfl, Below.refl _ _⟩
theorem rLab (l : List UInt8) (h : l.length ≤ 281474976710656) (w : World) : Calls Tryz.prog 37 #[.string (strB l)] w (RetV (.bool (labelB l)) w) := by
  have := rLabel (strB l) (by rw [strB_size]; exact h) w
  rwa [show (strB l).data.toList = l by simp [strB]] at this
end Go.Proofs.YtjnngeakdclkbaaGreatDoor

/- Valid of the reference, walked. -/
namespace Go.Proofs.YtjnngeakdclkbaaGreatDoor
open Go.RowKit Go.Maps Go.WideMaps Go.Shelf
set_option linter.unusedSimpArgs false
set_option linter.unusedVariables false

theorem rMay05 (fn arg : Int) (hf : 0 ≤ fn ∧ fn ≤ 255) (B : Nat) (w : World) (_ : Laid5 B w) (_ : B ≤ w.heap.size) : Calls Tryz.prog 38 #[.agg #[.int .u8 fn, .int .i32 arg]] w (RetV (.bool (findI fn arg).isSome) w) := by
  have hB0 : Below w.heap.size w (w.alloc (.cells #[.int .u8 fn, .int .i32 arg] 62)) := (Below.refl _ _).alloc (Nat.le_refl _) _
  have HFi := Lib.hid (fun w => rFind fn arg hf w)
  unfold rowR rowA at HFi
  generalize (findI fn arg).isSome = ok at *
  generalize (findI fn arg).getD irow0 = r at *
  generalize strB r.name = NM at *
  go_enter Tryz.func38, Tryz.ntmps38
  go_wp2_with (go_at_call 52; refine (HFi.out _).mono ?_; rintro e w1 ⟨rfl, hb1⟩)
  go_ret
  exact ⟨rfl, (hB0.trans (hb1.mono (by simp <;> omega))).alloc (by have := hb1.size; simp at this; omega) _⟩
set_option maxRecDepth 100000 in
set_option maxHeartbeats 4000000 in
theorem rValid (x : LineL) (hx : LOk x) (B : Nat) (w : World) (hL : Laid5 B w) (hB : B ≤ w.heap.size) : Calls Tryz.prog 23 #[.agg (lineC x)] w (RetV (.bool (validB x)) w) := by
  have S := S5.start hL hB
  have HL := Lib.hid (rLab x.label hx.label)
  have HT := Lib.hid (rLab x.target hx.target)
  have HF := Lib.hid (rLab x.frm hx.frm)
  have HM := Lib.hid (fun w h h2 => rMay05 (x.fn : Int) x.arg ⟨by omega, by have := hx.fn; omega⟩ B w h h2)
  have el := strB_empty x.label
  have et := strB_empty x.target
  have ef := strB_empty x.frm
  have hv : validB x = ((x.label.isEmpty || labelB x.label) && (if x.target.isEmpty = true then x.frm.isEmpty && (findI (x.fn : Int) x.arg).isSome
     else labelB x.target && (x.frm.isEmpty || labelB x.frm) && x.arg == 0 && decide (x.fn < 15) && !(x.fn == 2) && !(x.fn == 6))) := rfl
  have HV := Lib.hid hv
  clear hv
  clear hL hB hx
  unfold lineC
  generalize hlab : strB x.label = SL at *
  generalize htar : strB x.target = ST at *
  generalize hfrm : strB x.frm = SF at *
  generalize labelB x.label = bl at *
  generalize labelB x.target = bt at *
  generalize labelB x.frm = bf at *
  generalize (findI (x.fn : Int) x.arg).isSome = bm at *
  generalize x.label.isEmpty = zl at *
  generalize x.target.isEmpty = zt at *
  generalize x.frm.isEmpty = zf at *
  generalize hr : validB x = res at *
  clear hlab htar hfrm hr
  generalize x.fn = fn at *
  generalize x.arg = arg at *
  go_enter Tryz.func23, Tryz.ntmps23
  go_upto_region 1 with (fail)
  have S0 := S.alloc (.cells #[.string SL, .int .u8 fn, .int .i32 arg, .string ST, .string SF] 51)
  have b0 := Blk.new w 51 #[.string SL, .int .u8 fn, .int .i32 arg, .string ST, .string SF]
  obtain ⟨W0, hW0⟩ : ∃ W0, w.alloc (.cells #[.string SL, .int .u8 fn, .int .i32 arg, .string ST, .string SF] 51) = W0 := ⟨_, rfl⟩
  rw [hW0] at S0 b0 ⊢
  clear hW0
  go_cut [11] (fun s11 wx => s11 = .bool (!(zl || bl)) ∧ S5 B w wx ∧ Blk wx w.heap.size 51 #[.string SL, .int .u8 fn, .int .i32 arg, .string ST, .string SF])
  case first =>
    have c00 := b0.cell 0
    have c01 := b0.cell 1
    have c02 := b0.cell 2
    have c03 := b0.cell 3
    have c04 := b0.cell 4
    simp at c00 c01 c02 c03 c04
    cases zl
    · go_wp2_with (go_at_call 37; refine (HL.out _).mono ?_; rintro e w1 ⟨rfl, hb1⟩)
      go_meet
      exact ⟨rfl, S0.call hb1, b0.call hb1⟩
    · go_wp2
      go_meet
      exact ⟨rfl, S0, b0⟩
  case rest =>
    obtain ⟨rfl, S1, b1⟩ := hcut
    clear HL b0 S0 el S
    have c10 := b1.cell 0
    have c11 := b1.cell 1
    have c12 := b1.cell 2
    have c13 := b1.cell 3
    have c14 := b1.cell 4
    simp at c10 c11 c12 c13 c14
    generalize hg : (zl || bl) = g at *
    cases g
    · go_wp2
      refine bodyPost_ret (v := .bool false) (by simp [results, Tryz.results23, go_sem]) rfl ⟨by rw [HV.out]; simp, S1.k⟩
    have HM1 := Lib.hid (HM.out _ S1.l S1.b)
    clear HM
    cases zt
    · cases bt
      · go_wp2_with (go_at_call 37; refine (HT.out _).mono ?_; rintro e w1 ⟨rfl, hb1⟩)
        refine bodyPost_ret (v := .bool false) (by simp [results, Tryz.results23, go_sem]) rfl ⟨by rw [HV.out]; simp, (S1.call hb1).k⟩
      have call2 : ∀ (b1 : Bool), zf = false → True := fun _ _ => trivial
      clear call2
      have fin : ∀ (res' : Bool) (W : World), S5 B w W → res = res' → RetV (.bool res) w (.returned (.bool res')) W := fun r' W h e => ⟨by rw [e], h.k⟩
      have FIN := Lib.hid fin
      clear fin
      have hfn : (fn : Int) < 15 ∨ ¬ (fn : Int) < 15 := Classical.em _
      have HJ : ((zf || bf) = false ∧ res = false) ∨ ((zf || bf) = true ∧ ((¬ arg = 0 ∧ res = false) ∨ (arg = 0 ∧ ((¬ (fn : Int) < 15 ∧ res = false) ∨ ((fn : Int) < 15 ∧ (((fn : Int) = 2 ∧ res = false) ∨ (((fn : Int) != 2) = true ∧ res = !((fn : Int) == 6)))))))) := by
        have h := HV.out
        simp only [Bool.true_and, Bool.false_eq_true, if_false] at h
        have h6 : ((fn : Int) == 6) = (fn == 6) := by rw [Bool.eq_iff_iff]; simp; omega
        rw [h6]
        cases hz : (zf || bf)
        · exact .inl ⟨rfl, by rw [h, hz]; simp⟩
        · refine .inr ⟨rfl, ?_⟩
          rw [hz] at h
          by_cases ha : arg = 0
          · refine .inr ⟨ha, ?_⟩
            by_cases hf : (fn : Int) < 15
            · refine .inr ⟨hf, ?_⟩
              have hf' : fn < 15 := by omega
              by_cases h2 : fn = 2
              · exact .inl ⟨by omega, by rw [h]; simp [h2]⟩
              · exact .inr ⟨by simp; omega, by rw [h]; simp [ha, hf', h2]⟩
            · exact .inl ⟨hf, by rw [h]; have : ¬ fn < 15 := by omega
                                 simp [this]⟩
          · exact .inl ⟨ha, by rw [h]; simp [ha]⟩
      clear hfn HV HM1
      have HJ' := Lib.hid HJ
      clear HJ
      cases zf <;> cases bf
      · obtain ⟨-, hr⟩ : _ ∧ res = false := by rcases HJ'.out with h | ⟨h, _⟩; exact h; exact absurd h (by simp)
        clear HJ'
        have HR := Lib.hid hr
        clear hr
        go_wp2_with (first
          | (go_at_call 37; (with_reducible refine (HT.out wc).mono ?_); rintro e w1 ⟨rfl, hb1⟩
             have S2 := S1.call hb1
             have b2 := b1.call hb1
             have d10 := b2.cell 0
             have d11 := b2.cell 1
             have d12 := b2.cell 2
             have d13 := b2.cell 3
             have d14 := b2.cell 4
             simp at d10 d11 d12 d13 d14
             )
          | (go_at_call 37; (with_reducible refine (HF.out w1).mono ?_); rintro e w2 ⟨rfl, hb2⟩
             have S3 := S2.call hb2
             have b3 := b2.call hb2
             have e10 := b3.cell 0
             have e11 := b3.cell 1
             have e12 := b3.cell 2
             have e13 := b3.cell 3
             have e14 := b3.cell 4
             simp at e10 e11 e12 e13 e14
             ))
        refine bodyPost_ret (v := .bool false) (by simp [results, Tryz.results23, go_sem]) rfl (FIN.out _ _ S3 HR.out)
      · obtain h | ⟨-, h⟩ := HJ'.out
        · exact absurd h.1 (by simp)
        clear HJ'
        rcases h with ⟨h0, hr⟩ | ⟨h0, ⟨h15, hr⟩ | ⟨h15, ⟨h2, hr⟩ | ⟨h2, hr⟩⟩⟩
        · have h0 : (arg == 0) = false := by simpa using h0
          have HR := Lib.hid hr
          clear hr
          go_wp2_with (first
            | (go_at_call 37; (with_reducible refine (HT.out wc).mono ?_); rintro e w1 ⟨rfl, hb1⟩
               have S2 := S1.call hb1
               have b2 := b1.call hb1
               have d10 := b2.cell 0
               have d11 := b2.cell 1
               have d12 := b2.cell 2
               have d13 := b2.cell 3
               have d14 := b2.cell 4
               simp at d10 d11 d12 d13 d14
               )
            | (go_at_call 37; (with_reducible refine (HF.out w1).mono ?_); rintro e w2 ⟨rfl, hb2⟩
               have S3 := S2.call hb2
               have b3 := b2.call hb2
               have e10 := b3.cell 0
               have e11 := b3.cell 1
               have e12 := b3.cell 2
               have e13 := b3.cell 3
               have e14 := b3.cell 4
               simp at e10 e11 e12 e13 e14
               ))
          refine bodyPost_ret (v := .bool false) (by simp [results, Tryz.results23, go_sem]) rfl (FIN.out _ _ S3 HR.out)
        · subst h0
          have HR := Lib.hid hr
          clear hr
          go_wp2_with (first
            | (go_at_call 37; (with_reducible refine (HT.out wc).mono ?_); rintro e w1 ⟨rfl, hb1⟩
               have S2 := S1.call hb1
               have b2 := b1.call hb1
               have d10 := b2.cell 0
               have d11 := b2.cell 1
               have d12 := b2.cell 2
               have d13 := b2.cell 3
               have d14 := b2.cell 4
               simp at d10 d11 d12 d13 d14
               )
            | (go_at_call 37; (with_reducible refine (HF.out w1).mono ?_); rintro e w2 ⟨rfl, hb2⟩
               have S3 := S2.call hb2
               have b3 := b2.call hb2
               have e10 := b3.cell 0
               have e11 := b3.cell 1
               have e12 := b3.cell 2
               have e13 := b3.cell 3
               have e14 := b3.cell 4
               simp at e10 e11 e12 e13 e14
               ))
          refine bodyPost_ret (v := .bool false) (by simp [results, Tryz.results23, go_sem]) rfl (FIN.out _ _ S3 HR.out)
        · subst h0
          have h2 : ((fn : Int) != 2) = false := by rw [h2]; rfl
          have HR := Lib.hid hr
          clear hr
          go_wp2_with (first
            | (go_at_call 37; (with_reducible refine (HT.out wc).mono ?_); rintro e w1 ⟨rfl, hb1⟩
               have S2 := S1.call hb1
               have b2 := b1.call hb1
               have d10 := b2.cell 0
               have d11 := b2.cell 1
               have d12 := b2.cell 2
               have d13 := b2.cell 3
               have d14 := b2.cell 4
               simp at d10 d11 d12 d13 d14
               )
            | (go_at_call 37; (with_reducible refine (HF.out w1).mono ?_); rintro e w2 ⟨rfl, hb2⟩
               have S3 := S2.call hb2
               have b3 := b2.call hb2
               have e10 := b3.cell 0
               have e11 := b3.cell 1
               have e12 := b3.cell 2
               have e13 := b3.cell 3
               have e14 := b3.cell 4
               simp at e10 e11 e12 e13 e14
               ))
          refine bodyPost_ret (v := .bool false) (by simp [results, Tryz.results23, go_sem]) rfl (FIN.out _ _ S3 HR.out)
        · subst h0
          have HR := Lib.hid hr
          clear hr
          go_wp2_with (first
            | (go_at_call 37; (with_reducible refine (HT.out wc).mono ?_); rintro e w1 ⟨rfl, hb1⟩
               have S2 := S1.call hb1
               have b2 := b1.call hb1
               have d10 := b2.cell 0
               have d11 := b2.cell 1
               have d12 := b2.cell 2
               have d13 := b2.cell 3
               have d14 := b2.cell 4
               simp at d10 d11 d12 d13 d14
               )
            | (go_at_call 37; (with_reducible refine (HF.out w1).mono ?_); rintro e w2 ⟨rfl, hb2⟩
               have S3 := S2.call hb2
               have b3 := b2.call hb2
               have e10 := b3.cell 0
               have e11 := b3.cell 1
               have e12 := b3.cell 2
               have e13 := b3.cell 3
               have e14 := b3.cell 4
               simp at e10 e11 e12 e13 e14
               ))
          refine bodyPost_ret (v := .bool (((fn : Int) != 6))) (by simp [results, Tryz.results23, go_sem]) rfl (FIN.out _ _ S3 HR.out)
      · obtain h | ⟨-, h⟩ := HJ'.out
        · exact absurd h.1 (by simp)
        clear HJ'
        rcases h with ⟨h0, hr⟩ | ⟨h0, ⟨h15, hr⟩ | ⟨h15, ⟨h2, hr⟩ | ⟨h2, hr⟩⟩⟩
        · have h0 : (arg == 0) = false := by simpa using h0
          have HR := Lib.hid hr
          clear hr
          go_wp2_with (first
            | (go_at_call 37; (with_reducible refine (HT.out wc).mono ?_); rintro e w1 ⟨rfl, hb1⟩
               have S2 := S1.call hb1
               have b2 := b1.call hb1
               have d10 := b2.cell 0
               have d11 := b2.cell 1
               have d12 := b2.cell 2
               have d13 := b2.cell 3
               have d14 := b2.cell 4
               simp at d10 d11 d12 d13 d14
               ))
          refine bodyPost_ret (v := .bool false) (by simp [results, Tryz.results23, go_sem]) rfl (FIN.out _ _ S2 HR.out)
        · subst h0
          have HR := Lib.hid hr
          clear hr
          go_wp2_with (first
            | (go_at_call 37; (with_reducible refine (HT.out wc).mono ?_); rintro e w1 ⟨rfl, hb1⟩
               have S2 := S1.call hb1
               have b2 := b1.call hb1
               have d10 := b2.cell 0
               have d11 := b2.cell 1
               have d12 := b2.cell 2
               have d13 := b2.cell 3
               have d14 := b2.cell 4
               simp at d10 d11 d12 d13 d14
               ))
          refine bodyPost_ret (v := .bool false) (by simp [results, Tryz.results23, go_sem]) rfl (FIN.out _ _ S2 HR.out)
        · subst h0
          have h2 : ((fn : Int) != 2) = false := by rw [h2]; rfl
          have HR := Lib.hid hr
          clear hr
          go_wp2_with (first
            | (go_at_call 37; (with_reducible refine (HT.out wc).mono ?_); rintro e w1 ⟨rfl, hb1⟩
               have S2 := S1.call hb1
               have b2 := b1.call hb1
               have d10 := b2.cell 0
               have d11 := b2.cell 1
               have d12 := b2.cell 2
               have d13 := b2.cell 3
               have d14 := b2.cell 4
               simp at d10 d11 d12 d13 d14
               ))
          refine bodyPost_ret (v := .bool false) (by simp [results, Tryz.results23, go_sem]) rfl (FIN.out _ _ S2 HR.out)
        · subst h0
          have HR := Lib.hid hr
          clear hr
          go_wp2_with (first
            | (go_at_call 37; (with_reducible refine (HT.out wc).mono ?_); rintro e w1 ⟨rfl, hb1⟩
               have S2 := S1.call hb1
               have b2 := b1.call hb1
               have d10 := b2.cell 0
               have d11 := b2.cell 1
               have d12 := b2.cell 2
               have d13 := b2.cell 3
               have d14 := b2.cell 4
               simp at d10 d11 d12 d13 d14
               ))
          refine bodyPost_ret (v := .bool (((fn : Int) != 6))) (by simp [results, Tryz.results23, go_sem]) rfl (FIN.out _ _ S2 HR.out)
      · obtain h | ⟨-, h⟩ := HJ'.out
        · exact absurd h.1 (by simp)
        clear HJ'
        rcases h with ⟨h0, hr⟩ | ⟨h0, ⟨h15, hr⟩ | ⟨h15, ⟨h2, hr⟩ | ⟨h2, hr⟩⟩⟩
        · have h0 : (arg == 0) = false := by simpa using h0
          have HR := Lib.hid hr
          clear hr
          go_wp2_with (first
            | (go_at_call 37; (with_reducible refine (HT.out wc).mono ?_); rintro e w1 ⟨rfl, hb1⟩
               have S2 := S1.call hb1
               have b2 := b1.call hb1
               have d10 := b2.cell 0
               have d11 := b2.cell 1
               have d12 := b2.cell 2
               have d13 := b2.cell 3
               have d14 := b2.cell 4
               simp at d10 d11 d12 d13 d14
               ))
          refine bodyPost_ret (v := .bool false) (by simp [results, Tryz.results23, go_sem]) rfl (FIN.out _ _ S2 HR.out)
        · subst h0
          have HR := Lib.hid hr
          clear hr
          go_wp2_with (first
            | (go_at_call 37; (with_reducible refine (HT.out wc).mono ?_); rintro e w1 ⟨rfl, hb1⟩
               have S2 := S1.call hb1
               have b2 := b1.call hb1
               have d10 := b2.cell 0
               have d11 := b2.cell 1
               have d12 := b2.cell 2
               have d13 := b2.cell 3
               have d14 := b2.cell 4
               simp at d10 d11 d12 d13 d14
               ))
          refine bodyPost_ret (v := .bool false) (by simp [results, Tryz.results23, go_sem]) rfl (FIN.out _ _ S2 HR.out)
        · subst h0
          have h2 : ((fn : Int) != 2) = false := by rw [h2]; rfl
          have HR := Lib.hid hr
          clear hr
          go_wp2_with (first
            | (go_at_call 37; (with_reducible refine (HT.out wc).mono ?_); rintro e w1 ⟨rfl, hb1⟩
               have S2 := S1.call hb1
               have b2 := b1.call hb1
               have d10 := b2.cell 0
               have d11 := b2.cell 1
               have d12 := b2.cell 2
               have d13 := b2.cell 3
               have d14 := b2.cell 4
               simp at d10 d11 d12 d13 d14
               ))
          refine bodyPost_ret (v := .bool false) (by simp [results, Tryz.results23, go_sem]) rfl (FIN.out _ _ S2 HR.out)
        · subst h0
          have HR := Lib.hid hr
          clear hr
          go_wp2_with (first
            | (go_at_call 37; (with_reducible refine (HT.out wc).mono ?_); rintro e w1 ⟨rfl, hb1⟩
               have S2 := S1.call hb1
               have b2 := b1.call hb1
               have d10 := b2.cell 0
               have d11 := b2.cell 1
               have d12 := b2.cell 2
               have d13 := b2.cell 3
               have d14 := b2.cell 4
               simp at d10 d11 d12 d13 d14
               ))
          refine bodyPost_ret (v := .bool (((fn : Int) != 6))) (by simp [results, Tryz.results23, go_sem]) rfl (FIN.out _ _ S2 HR.out)
    · cases zf
      · go_wp2
        refine bodyPost_ret (v := .bool false) (by simp [results, Tryz.results23, go_sem]) rfl ⟨by rw [HV.out]; simp, S1.k⟩
      · go_wp2_with (go_at_call 38; refine HM1.out.mono ?_; rintro e w1 ⟨rfl, hb1⟩)
        refine bodyPost_ret (v := .bool bm) (by simp [results, Tryz.results23, go_sem]) rfl ⟨by rw [HV.out]; simp, (S1.call hb1).k⟩
end Go.Proofs.YtjnngeakdclkbaaGreatDoor

/- Check of the reference, walked. -/
namespace Go.Proofs.YtjnngeakdclkbaaGreatDoor
open Go.RowKit Go.Maps Go.WideMaps Go.Shelf
set_option linter.unusedSimpArgs false
set_option linter.unusedVariables false

theorem ok_no1 {ls : List LineL} {k : Nat} {x : LineL} {a : Int} (ha : atI ls x.label = a) (hz : x.label.isEmpty = false) (h : (a != (k : Int)) = true) : okL ls k x = false := by
  unfold okL
  rw [atI_some, ha, hz]
  have : (a == (k : Int)) = false := by simpa using h
  rw [this]; rfl
theorem ok_no2 {ls : List LineL} {k : Nat} {x : LineL} {a : Int} (ha : atI ls x.target = a) (hz : x.target.isEmpty = false) (h : a < 0) : okL ls k x = false := by
  unfold okL
  have : (atL ls x.target).isSome = false := by rw [atI_neg, ha]; simp [h]
  rw [this, hz]; simp
theorem ok_no3 {ls : List LineL} {k : Nat} {x : LineL} {a : Int} (ha : atI ls x.frm = a) (hz : x.frm.isEmpty = false) (h : a < 0) : okL ls k x = false := by
  unfold okL
  have : (atL ls x.frm).isSome = false := by rw [atI_neg, ha]; simp [h]
  rw [this, hz]; simp
theorem ok_yes {ls : List LineL} {k : Nat} {x : LineL} {a b c : Int} (ha : atI ls x.label = a) (hb : atI ls x.target = b) (hc : atI ls x.frm = c) (h1 : x.label.isEmpty = true ∨ (a != (k : Int)) = false) (h2 : x.target.isEmpty = true ∨ ¬ b < 0) (h3 : x.frm.isEmpty = true ∨ ¬ c < 0) : okL ls k x = true := by
  unfold okL
  rw [atI_some, ha]
  rw [atI_neg, atI_neg, hb, hc]
  have e1 : (x.label.isEmpty || a == (k : Int)) = true := by
    rcases h1 with h | h
    · simp [h]
    · have : (a == (k : Int)) = true := by simpa using h
      simp [this]
  have e2 : (x.target.isEmpty || !decide (b < 0)) = true := by
    rcases h2 with h | h
    · simp [h]
    · simp [h]
  have e3 : (x.frm.isEmpty || !decide (c < 0)) = true := by
    rcases h3 with h | h
    · simp [h]
    · simp [h]
  rw [e1, e2, e3]; rfl
set_option maxRecDepth 100000 in
set_option maxHeartbeats 4000000 in
theorem rCheck (ls : List LineL) (hok : ∀ x ∈ ls, LOk x) (A : Option Addr) (n c : Nat) (hn : n ≤ 1000000) (B : Nat) (w : World) (hr : Reads w w.heap.size 5 A n (linesL ls)) (hL : Laid5 B w) (hB : B ≤ w.heap.size) :
    Calls Tryz.prog 13 #[.slice A n c] w (RetV (.int .i64 (checkE ls)) w) := by
  have S := Lib.hid (S5.start hL hB)
  have HR := Lib.hid hr
  have HK := Lib.hid hok
  have HN := Lib.hid (lines_len hr)
  clear hr hok hL hB
  go_enter Tryz.func13, Tryz.ntmps13
  go_wp2
  go_loopw [3] (fun i wr => ∃ k : Nat, k ≤ n ∧ i = .int .i64 k ∧ Hid (S5 B w wr) ∧ Hid ((ls.take k).all validB = true)) (fun i _ => n - (intOf i).toNat)
  case atStart => exact ⟨0, by omega, rfl, S, Lib.hid (by simp)⟩
  case round =>
    clear S
    obtain ⟨k, hk, rfl, S, HV⟩ := hrel
    by_cases hlt : k < n
    · have hltI : (k : Int) < n := by omega
      obtain ⟨b, off, x, rfl, hb, hx, c0, c1, c2, c3, c4⟩ := lines_at (HR.out.below S.out.k) hlt
      have hbs : b < wr.heap.size := by have := S.out.k.size; omega
      have HC := Lib.hid (rValid x (HK.out x (List.mem_of_getElem? hx)) B _ S.out.l S.out.b)
      simp only [lineC] at HC
      have HX := Lib.hid hx
      clear hx
      generalize hv : validB x = bv at *
      have HVX := Lib.hid hv
      clear hv
      cases bv
      · have e2 := Lib.hid (check_two HX.out HVX.out)
        go_wp2_with (go_at_call 23; refine HC.out.mono ?_; rintro e w1 ⟨rfl, hb1⟩)
        go_ret
        exact ⟨by rw [e2.out]; rfl, (S.out.call hb1).k⟩
      · go_wp2_with (go_at_call 23; refine HC.out.mono ?_; rintro e w1 ⟨rfl, hb1⟩)
        go_roundw
        case rel => exact ⟨k + 1, by omega, by go_num, Lib.hid (S.out.call hb1), Lib.hid (all_take_succ HX.out HV.out HVX.out)⟩
        case measure => simp [intOf]; omega
    · have hltI : ¬ (k : Int) < n := by omega
      obtain rfl : n = k := by omega
      have HA : Hid (ls.all validB = true) := Lib.hid (by have := HV.out; rwa [List.take_of_length_le (by rw [HN.out]; omega)] at this)
      clear HV
      go_wp2
      go_loopw [4] (fun i wr => ∃ j : Nat, j ≤ n ∧ i = .int .i64 j ∧ Hid (S5 B w wr) ∧ Hid (∀ i x, i < j → ls[i]? = some x → okL ls i x = true)) (fun i _ => n - (intOf i).toNat)
      case atStart => exact ⟨0, by omega, rfl, S, Lib.hid (by intro i x h; omega)⟩
      case round =>
        clear S
        obtain ⟨j, hj, rfl, S, HP⟩ := hrel
        by_cases hjt : j < n
        · have hjtI : (j : Int) < n := by omega
          obtain ⟨b, off, x, rfl, hb, hx, c0, c1, c2, c3, c4⟩ := lines_at (HR.out.below S.out.k) hjt
          have hbs : b < wr.heap.size := by have := S.out.k.size; omega
          have HS1 := Lib.hid (S.out.alloc (.cells (lineC x) 51))
          have b0 := Blk.new wr 51 (lineC x)
          have HXO := Lib.hid (HK.out x (List.mem_of_getElem? hx))
          have HC1 := Lib.hid (fun w hr => rAt ls x.label (some ⟨b, off, none⟩) n c w hr hn)
          have HC2 := Lib.hid (fun w hr => rAt ls x.target (some ⟨b, off, none⟩) n c w hr hn)
          have HC3 := Lib.hid (fun w hr => rAt ls x.frm (some ⟨b, off, none⟩) n c w hr hn)
          have el := strB_empty x.label
          have et := strB_empty x.target
          have ef := strB_empty x.frm
          have HX := Lib.hid hx
          simp only [lineC] at HS1 b0
          clear hx S
          obtain ⟨a1, ha1⟩ : ∃ a, atI ls x.label = a := ⟨_, rfl⟩
          obtain ⟨a2, ha2⟩ : ∃ a, atI ls x.target = a := ⟨_, rfl⟩
          obtain ⟨a3, ha3⟩ : ∃ a, atI ls x.frm = a := ⟨_, rfl⟩
          rw [ha1] at HC1
          rw [ha2] at HC2
          rw [ha3] at HC3
          have N1 := Lib.hid (ok_no1 (k := j) ha1)
          have N2 := Lib.hid (ok_no2 (k := j) ha2)
          have N3 := Lib.hid (ok_no3 (k := j) ha3)
          have NY := Lib.hid (ok_yes (k := j) ha1 ha2 ha3)
          clear ha1 ha2 ha3
          generalize x.label.isEmpty = zl at *
          generalize x.target.isEmpty = zt at *
          generalize x.frm.isEmpty = zf at *
          generalize strB x.target = ST at *
          generalize strB x.frm = SF at *
          generalize strB x.label = SL at *
          have no : okL ls j x = false → checkE ls = 60 := fun h => check_sixty HA.out HX.out h
          have yes : okL ls j x = true → ∀ i y, i < j + 1 → ls[i]? = some y → okL ls i y = true := by
            intro h i y hi hy
            by_cases e : i = j
            · subst e; rw [HX.out] at hy; injection hy with hy; subst hy; exact h
            · exact HP.out i y (by omega) hy
          have NO := Lib.hid no
          have YES := Lib.hid yes
          clear no yes
          have HRR0 := Lib.hid ((HR.out.below HS1.out.k).more HS1.out.k.size)
          have c00 := b0.cell 0
          have c01 := b0.cell 1
          have c02 := b0.cell 2
          have c03 := b0.cell 3
          have c04 := b0.cell 4
          simp at c00 c01 c02 c03 c04
          have hq1 : (a1 != (j : Int)) = true ∨ (a1 != (j : Int)) = false := by cases (a1 != (j : Int)) <;> simp
          cases zl
          · rcases hq1 with q1 | q1
            · have E60 := Lib.hid (NO.out (N1.out rfl q1))
              clear NO YES N1 N2 N3 NY
              go_wp2_with (first
                | (go_at_call 24; (with_reducible refine (HC1.out _ HRR0.out).mono ?_); rintro e ww1 ⟨rfl, hbb1⟩
                   have HSb1 := Lib.hid (HS1.out.call hbb1)
                   have bb1 := b0.call hbb1
                   have HRR1 := Lib.hid ((HR.out.below HSb1.out.k).more HSb1.out.k.size)
                   have dc0 := bb1.cell 0
                   have dc1 := bb1.cell 1
                   have dc2 := bb1.cell 2
                   have dc3 := bb1.cell 3
                   have dc4 := bb1.cell 4
                   simp at dc0 dc1 dc2 dc3 dc4))
              go_ret
              exact ⟨by rw [E60.out]; rfl, HSb1.out.k⟩
            · cases zt
              · by_cases q2 : a2 < 0
                · have E60 := Lib.hid (NO.out (N2.out rfl q2))
                  clear NO YES N1 N2 N3 NY
                  go_wp2_with (first
                    | (go_at_call 24; (with_reducible refine (HC1.out _ HRR0.out).mono ?_); rintro e ww1 ⟨rfl, hbb1⟩
                       have HSb1 := Lib.hid (HS1.out.call hbb1)
                       have bb1 := b0.call hbb1
                       have HRR1 := Lib.hid ((HR.out.below HSb1.out.k).more HSb1.out.k.size)
                       have dc0 := bb1.cell 0
                       have dc1 := bb1.cell 1
                       have dc2 := bb1.cell 2
                       have dc3 := bb1.cell 3
                       have dc4 := bb1.cell 4
                       simp at dc0 dc1 dc2 dc3 dc4)
                    | (go_at_call 24; (with_reducible refine (HC2.out _ HRR1.out).mono ?_); rintro e ww2 ⟨rfl, hbb2⟩
                       have HSb2 := Lib.hid (HSb1.out.call hbb2)
                       have bb2 := bb1.call hbb2
                       have HRR2 := Lib.hid ((HR.out.below HSb2.out.k).more HSb2.out.k.size)
                       have ec0 := bb2.cell 0
                       have ec1 := bb2.cell 1
                       have ec2 := bb2.cell 2
                       have ec3 := bb2.cell 3
                       have ec4 := bb2.cell 4
                       simp at ec0 ec1 ec2 ec3 ec4))
                  go_ret
                  exact ⟨by rw [E60.out]; rfl, HSb2.out.k⟩
                · cases zf
                  · by_cases q3 : a3 < 0
                    · have E60 := Lib.hid (NO.out (N3.out rfl q3))
                      clear NO YES N1 N2 N3 NY
                      go_wp2_with (first
                        | (go_at_call 24; (with_reducible refine (HC1.out _ HRR0.out).mono ?_); rintro e ww1 ⟨rfl, hbb1⟩
                           have HSb1 := Lib.hid (HS1.out.call hbb1)
                           have bb1 := b0.call hbb1
                           have HRR1 := Lib.hid ((HR.out.below HSb1.out.k).more HSb1.out.k.size)
                           have dc0 := bb1.cell 0
                           have dc1 := bb1.cell 1
                           have dc2 := bb1.cell 2
                           have dc3 := bb1.cell 3
                           have dc4 := bb1.cell 4
                           simp at dc0 dc1 dc2 dc3 dc4)
                        | (go_at_call 24; (with_reducible refine (HC2.out _ HRR1.out).mono ?_); rintro e ww2 ⟨rfl, hbb2⟩
                           have HSb2 := Lib.hid (HSb1.out.call hbb2)
                           have bb2 := bb1.call hbb2
                           have HRR2 := Lib.hid ((HR.out.below HSb2.out.k).more HSb2.out.k.size)
                           have ec0 := bb2.cell 0
                           have ec1 := bb2.cell 1
                           have ec2 := bb2.cell 2
                           have ec3 := bb2.cell 3
                           have ec4 := bb2.cell 4
                           simp at ec0 ec1 ec2 ec3 ec4)
                        | (go_at_call 24; (with_reducible refine (HC3.out _ HRR2.out).mono ?_); rintro e ww3 ⟨rfl, hbb3⟩
                           have HSb3 := Lib.hid (HSb2.out.call hbb3)
                           have bb3 := bb2.call hbb3
                           have HRR3 := Lib.hid ((HR.out.below HSb3.out.k).more HSb3.out.k.size)
                           have fc0 := bb3.cell 0
                           have fc1 := bb3.cell 1
                           have fc2 := bb3.cell 2
                           have fc3 := bb3.cell 3
                           have fc4 := bb3.cell 4
                           simp at fc0 fc1 fc2 fc3 fc4))
                      go_ret
                      exact ⟨by rw [E60.out]; rfl, HSb3.out.k⟩
                    · have YY := Lib.hid (YES.out (NY.out (.inr q1) (.inr q2) (.inr q3)))
                      clear NO YES N1 N2 N3 NY
                      go_wp2_with (first
                        | (go_at_call 24; (with_reducible refine (HC1.out _ HRR0.out).mono ?_); rintro e ww1 ⟨rfl, hbb1⟩
                           have HSb1 := Lib.hid (HS1.out.call hbb1)
                           have bb1 := b0.call hbb1
                           have HRR1 := Lib.hid ((HR.out.below HSb1.out.k).more HSb1.out.k.size)
                           have dc0 := bb1.cell 0
                           have dc1 := bb1.cell 1
                           have dc2 := bb1.cell 2
                           have dc3 := bb1.cell 3
                           have dc4 := bb1.cell 4
                           simp at dc0 dc1 dc2 dc3 dc4)
                        | (go_at_call 24; (with_reducible refine (HC2.out _ HRR1.out).mono ?_); rintro e ww2 ⟨rfl, hbb2⟩
                           have HSb2 := Lib.hid (HSb1.out.call hbb2)
                           have bb2 := bb1.call hbb2
                           have HRR2 := Lib.hid ((HR.out.below HSb2.out.k).more HSb2.out.k.size)
                           have ec0 := bb2.cell 0
                           have ec1 := bb2.cell 1
                           have ec2 := bb2.cell 2
                           have ec3 := bb2.cell 3
                           have ec4 := bb2.cell 4
                           simp at ec0 ec1 ec2 ec3 ec4)
                        | (go_at_call 24; (with_reducible refine (HC3.out _ HRR2.out).mono ?_); rintro e ww3 ⟨rfl, hbb3⟩
                           have HSb3 := Lib.hid (HSb2.out.call hbb3)
                           have bb3 := bb2.call hbb3
                           have HRR3 := Lib.hid ((HR.out.below HSb3.out.k).more HSb3.out.k.size)
                           have fc0 := bb3.cell 0
                           have fc1 := bb3.cell 1
                           have fc2 := bb3.cell 2
                           have fc3 := bb3.cell 3
                           have fc4 := bb3.cell 4
                           simp at fc0 fc1 fc2 fc3 fc4))
                      go_roundw
                      case rel => exact ⟨j + 1, by omega, by go_num, HSb3, YY⟩
                      case measure => simp [intOf]; omega
                  · have YY := Lib.hid (YES.out (NY.out (.inr q1) (.inr q2) (.inl rfl)))
                    clear NO YES N1 N2 N3 NY
                    go_wp2_with (first
                      | (go_at_call 24; (with_reducible refine (HC1.out _ HRR0.out).mono ?_); rintro e ww1 ⟨rfl, hbb1⟩
                         have HSb1 := Lib.hid (HS1.out.call hbb1)
                         have bb1 := b0.call hbb1
                         have HRR1 := Lib.hid ((HR.out.below HSb1.out.k).more HSb1.out.k.size)
                         have dc0 := bb1.cell 0
                         have dc1 := bb1.cell 1
                         have dc2 := bb1.cell 2
                         have dc3 := bb1.cell 3
                         have dc4 := bb1.cell 4
                         simp at dc0 dc1 dc2 dc3 dc4)
                      | (go_at_call 24; (with_reducible refine (HC2.out _ HRR1.out).mono ?_); rintro e ww2 ⟨rfl, hbb2⟩
                         have HSb2 := Lib.hid (HSb1.out.call hbb2)
                         have bb2 := bb1.call hbb2
                         have HRR2 := Lib.hid ((HR.out.below HSb2.out.k).more HSb2.out.k.size)
                         have ec0 := bb2.cell 0
                         have ec1 := bb2.cell 1
                         have ec2 := bb2.cell 2
                         have ec3 := bb2.cell 3
                         have ec4 := bb2.cell 4
                         simp at ec0 ec1 ec2 ec3 ec4))
                    go_roundw
                    case rel => exact ⟨j + 1, by omega, by go_num, HSb2, YY⟩
                    case measure => simp [intOf]; omega
              · cases zf
                · by_cases q3 : a3 < 0
                  · have E60 := Lib.hid (NO.out (N3.out rfl q3))
                    clear NO YES N1 N2 N3 NY
                    go_wp2_with (first
                      | (go_at_call 24; (with_reducible refine (HC1.out _ HRR0.out).mono ?_); rintro e ww1 ⟨rfl, hbb1⟩
                         have HSb1 := Lib.hid (HS1.out.call hbb1)
                         have bb1 := b0.call hbb1
                         have HRR1 := Lib.hid ((HR.out.below HSb1.out.k).more HSb1.out.k.size)
                         have dc0 := bb1.cell 0
                         have dc1 := bb1.cell 1
                         have dc2 := bb1.cell 2
                         have dc3 := bb1.cell 3
                         have dc4 := bb1.cell 4
                         simp at dc0 dc1 dc2 dc3 dc4)
                      | (go_at_call 24; (with_reducible refine (HC3.out _ HRR1.out).mono ?_); rintro e ww2 ⟨rfl, hbb2⟩
                         have HSb2 := Lib.hid (HSb1.out.call hbb2)
                         have bb2 := bb1.call hbb2
                         have HRR2 := Lib.hid ((HR.out.below HSb2.out.k).more HSb2.out.k.size)
                         have fc0 := bb2.cell 0
                         have fc1 := bb2.cell 1
                         have fc2 := bb2.cell 2
                         have fc3 := bb2.cell 3
                         have fc4 := bb2.cell 4
                         simp at fc0 fc1 fc2 fc3 fc4))
                    go_ret
                    exact ⟨by rw [E60.out]; rfl, HSb2.out.k⟩
                  · have YY := Lib.hid (YES.out (NY.out (.inr q1) (.inl rfl) (.inr q3)))
                    clear NO YES N1 N2 N3 NY
                    go_wp2_with (first
                      | (go_at_call 24; (with_reducible refine (HC1.out _ HRR0.out).mono ?_); rintro e ww1 ⟨rfl, hbb1⟩
                         have HSb1 := Lib.hid (HS1.out.call hbb1)
                         have bb1 := b0.call hbb1
                         have HRR1 := Lib.hid ((HR.out.below HSb1.out.k).more HSb1.out.k.size)
                         have dc0 := bb1.cell 0
                         have dc1 := bb1.cell 1
                         have dc2 := bb1.cell 2
                         have dc3 := bb1.cell 3
                         have dc4 := bb1.cell 4
                         simp at dc0 dc1 dc2 dc3 dc4)
                      | (go_at_call 24; (with_reducible refine (HC3.out _ HRR1.out).mono ?_); rintro e ww2 ⟨rfl, hbb2⟩
                         have HSb2 := Lib.hid (HSb1.out.call hbb2)
                         have bb2 := bb1.call hbb2
                         have HRR2 := Lib.hid ((HR.out.below HSb2.out.k).more HSb2.out.k.size)
                         have fc0 := bb2.cell 0
                         have fc1 := bb2.cell 1
                         have fc2 := bb2.cell 2
                         have fc3 := bb2.cell 3
                         have fc4 := bb2.cell 4
                         simp at fc0 fc1 fc2 fc3 fc4))
                    go_roundw
                    case rel => exact ⟨j + 1, by omega, by go_num, HSb2, YY⟩
                    case measure => simp [intOf]; omega
                · have YY := Lib.hid (YES.out (NY.out (.inr q1) (.inl rfl) (.inl rfl)))
                  clear NO YES N1 N2 N3 NY
                  go_wp2_with (first
                    | (go_at_call 24; (with_reducible refine (HC1.out _ HRR0.out).mono ?_); rintro e ww1 ⟨rfl, hbb1⟩
                       have HSb1 := Lib.hid (HS1.out.call hbb1)
                       have bb1 := b0.call hbb1
                       have HRR1 := Lib.hid ((HR.out.below HSb1.out.k).more HSb1.out.k.size)
                       have dc0 := bb1.cell 0
                       have dc1 := bb1.cell 1
                       have dc2 := bb1.cell 2
                       have dc3 := bb1.cell 3
                       have dc4 := bb1.cell 4
                       simp at dc0 dc1 dc2 dc3 dc4))
                  go_roundw
                  case rel => exact ⟨j + 1, by omega, by go_num, HSb1, YY⟩
                  case measure => simp [intOf]; omega
          · cases zt
            · by_cases q2 : a2 < 0
              · have E60 := Lib.hid (NO.out (N2.out rfl q2))
                clear NO YES N1 N2 N3 NY
                go_wp2_with (first
                  | (go_at_call 24; (with_reducible refine (HC2.out _ HRR0.out).mono ?_); rintro e ww1 ⟨rfl, hbb1⟩
                     have HSb1 := Lib.hid (HS1.out.call hbb1)
                     have bb1 := b0.call hbb1
                     have HRR1 := Lib.hid ((HR.out.below HSb1.out.k).more HSb1.out.k.size)
                     have ec0 := bb1.cell 0
                     have ec1 := bb1.cell 1
                     have ec2 := bb1.cell 2
                     have ec3 := bb1.cell 3
                     have ec4 := bb1.cell 4
                     simp at ec0 ec1 ec2 ec3 ec4))
                go_ret
                exact ⟨by rw [E60.out]; rfl, HSb1.out.k⟩
              · cases zf
                · by_cases q3 : a3 < 0
                  · have E60 := Lib.hid (NO.out (N3.out rfl q3))
                    clear NO YES N1 N2 N3 NY
                    go_wp2_with (first
                      | (go_at_call 24; (with_reducible refine (HC2.out _ HRR0.out).mono ?_); rintro e ww1 ⟨rfl, hbb1⟩
                         have HSb1 := Lib.hid (HS1.out.call hbb1)
                         have bb1 := b0.call hbb1
                         have HRR1 := Lib.hid ((HR.out.below HSb1.out.k).more HSb1.out.k.size)
                         have ec0 := bb1.cell 0
                         have ec1 := bb1.cell 1
                         have ec2 := bb1.cell 2
                         have ec3 := bb1.cell 3
                         have ec4 := bb1.cell 4
                         simp at ec0 ec1 ec2 ec3 ec4)
                      | (go_at_call 24; (with_reducible refine (HC3.out _ HRR1.out).mono ?_); rintro e ww2 ⟨rfl, hbb2⟩
                         have HSb2 := Lib.hid (HSb1.out.call hbb2)
                         have bb2 := bb1.call hbb2
                         have HRR2 := Lib.hid ((HR.out.below HSb2.out.k).more HSb2.out.k.size)
                         have fc0 := bb2.cell 0
                         have fc1 := bb2.cell 1
                         have fc2 := bb2.cell 2
                         have fc3 := bb2.cell 3
                         have fc4 := bb2.cell 4
                         simp at fc0 fc1 fc2 fc3 fc4))
                    go_ret
                    exact ⟨by rw [E60.out]; rfl, HSb2.out.k⟩
                  · have YY := Lib.hid (YES.out (NY.out (.inl rfl) (.inr q2) (.inr q3)))
                    clear NO YES N1 N2 N3 NY
                    go_wp2_with (first
                      | (go_at_call 24; (with_reducible refine (HC2.out _ HRR0.out).mono ?_); rintro e ww1 ⟨rfl, hbb1⟩
                         have HSb1 := Lib.hid (HS1.out.call hbb1)
                         have bb1 := b0.call hbb1
                         have HRR1 := Lib.hid ((HR.out.below HSb1.out.k).more HSb1.out.k.size)
                         have ec0 := bb1.cell 0
                         have ec1 := bb1.cell 1
                         have ec2 := bb1.cell 2
                         have ec3 := bb1.cell 3
                         have ec4 := bb1.cell 4
                         simp at ec0 ec1 ec2 ec3 ec4)
                      | (go_at_call 24; (with_reducible refine (HC3.out _ HRR1.out).mono ?_); rintro e ww2 ⟨rfl, hbb2⟩
                         have HSb2 := Lib.hid (HSb1.out.call hbb2)
                         have bb2 := bb1.call hbb2
                         have HRR2 := Lib.hid ((HR.out.below HSb2.out.k).more HSb2.out.k.size)
                         have fc0 := bb2.cell 0
                         have fc1 := bb2.cell 1
                         have fc2 := bb2.cell 2
                         have fc3 := bb2.cell 3
                         have fc4 := bb2.cell 4
                         simp at fc0 fc1 fc2 fc3 fc4))
                    go_roundw
                    case rel => exact ⟨j + 1, by omega, by go_num, HSb2, YY⟩
                    case measure => simp [intOf]; omega
                · have YY := Lib.hid (YES.out (NY.out (.inl rfl) (.inr q2) (.inl rfl)))
                  clear NO YES N1 N2 N3 NY
                  go_wp2_with (first
                    | (go_at_call 24; (with_reducible refine (HC2.out _ HRR0.out).mono ?_); rintro e ww1 ⟨rfl, hbb1⟩
                       have HSb1 := Lib.hid (HS1.out.call hbb1)
                       have bb1 := b0.call hbb1
                       have HRR1 := Lib.hid ((HR.out.below HSb1.out.k).more HSb1.out.k.size)
                       have ec0 := bb1.cell 0
                       have ec1 := bb1.cell 1
                       have ec2 := bb1.cell 2
                       have ec3 := bb1.cell 3
                       have ec4 := bb1.cell 4
                       simp at ec0 ec1 ec2 ec3 ec4))
                  go_roundw
                  case rel => exact ⟨j + 1, by omega, by go_num, HSb1, YY⟩
                  case measure => simp [intOf]; omega
            · cases zf
              · by_cases q3 : a3 < 0
                · have E60 := Lib.hid (NO.out (N3.out rfl q3))
                  clear NO YES N1 N2 N3 NY
                  go_wp2_with (first
                    | (go_at_call 24; (with_reducible refine (HC3.out _ HRR0.out).mono ?_); rintro e ww1 ⟨rfl, hbb1⟩
                       have HSb1 := Lib.hid (HS1.out.call hbb1)
                       have bb1 := b0.call hbb1
                       have HRR1 := Lib.hid ((HR.out.below HSb1.out.k).more HSb1.out.k.size)
                       have fc0 := bb1.cell 0
                       have fc1 := bb1.cell 1
                       have fc2 := bb1.cell 2
                       have fc3 := bb1.cell 3
                       have fc4 := bb1.cell 4
                       simp at fc0 fc1 fc2 fc3 fc4))
                  go_ret
                  exact ⟨by rw [E60.out]; rfl, HSb1.out.k⟩
                · have YY := Lib.hid (YES.out (NY.out (.inl rfl) (.inl rfl) (.inr q3)))
                  clear NO YES N1 N2 N3 NY
                  go_wp2_with (first
                    | (go_at_call 24; (with_reducible refine (HC3.out _ HRR0.out).mono ?_); rintro e ww1 ⟨rfl, hbb1⟩
                       have HSb1 := Lib.hid (HS1.out.call hbb1)
                       have bb1 := b0.call hbb1
                       have HRR1 := Lib.hid ((HR.out.below HSb1.out.k).more HSb1.out.k.size)
                       have fc0 := bb1.cell 0
                       have fc1 := bb1.cell 1
                       have fc2 := bb1.cell 2
                       have fc3 := bb1.cell 3
                       have fc4 := bb1.cell 4
                       simp at fc0 fc1 fc2 fc3 fc4))
                  go_roundw
                  case rel => exact ⟨j + 1, by omega, by go_num, HSb1, YY⟩
                  case measure => simp [intOf]; omega
              · have YY := Lib.hid (YES.out (NY.out (.inl rfl) (.inl rfl) (.inl rfl)))
                clear NO YES N1 N2 N3 NY
                go_wp2
                go_roundw
                case rel => exact ⟨j + 1, by omega, by go_num, HS1, YY⟩
                case measure => simp [intOf]; omega
        · have hjtI : ¬ (j : Int) < n := by omega
          obtain rfl : n = j := by omega
          have e0 := Lib.hid (check_zero HA.out (fun i x hx => HP.out i x (by have := (List.getElem?_eq_some_iff.1 hx).1; rw [HN.out] at this; exact this) hx))
          go_wp2
          go_ret
          exact ⟨by rw [e0.out]; rfl, S.out.k⟩
end Go.Proofs.YtjnngeakdclkbaaGreatDoor

/- Lengths of the reference, walked. -/
namespace Go.Proofs.YtjnngeakdclkbaaGreatDoor
open Go.RowKit Go.Maps Go.WideMaps Go.Shelf
set_option linter.unusedSimpArgs false
set_option linter.unusedVariables false

def sumAt (w : World) (g o : Nat) : Nat → Nat
  | 0 => 0
  | k + 1 => sumAt w g o k + (match w.cell? ⟨g, o + k, none⟩ with | some v => (intOf v).toNat | none => 0)
/-- How much the lengths of a slice may still grow. -/
def roomV (n : Nat) (v : Value) (w : World) : Nat := match v with
  | .slice (some ⟨g, o, none⟩) _ _ => 8 * n + 1 - sumAt w g o n
  | _ => 8 * n + 1
theorem roomV_eq {w : World} {B n : Nat} {v : Value} {L : List Nat} (h : w.ownsRow B 3 1 v n (ncells L)) : roomV n v w = 8 * n + 1 - adr L n := by
  have hl : L.length = n := by have := h.1; rw [ncells_len] at this; omega
  rcases h.2 with ⟨rfl, rfl⟩ | ⟨g, cap, cur, rfl, hb, hg, hc, hm, hs, ht⟩
  · have : L = [] := List.eq_nil_of_length_eq_zero hl
    subst this; rfl
  · have key : ∀ k, k ≤ n → sumAt w g 0 k = adr L k := by
      intro k
      induction k with
      | zero => intro _; rfl
      | succ k ih =>
        intro hk
        obtain ⟨b, off, x, e, -, hx, c⟩ := nums_at (Reads.of_own h) (show k < n by omega)
        injection e with e; injection e with e1 e2
        subst e1 e2
        rw [sumAt, ih (by omega), c, adr, List.getD_eq_getElem?_getD, hx]
        simp [intOf]
    simp only [roomV]
    rw [key n (Nat.le_refl _)]
def RetLenR (ls : List LineL) (w : World) (e : Ending) (w' : World) : Prop :=
  Below w.heap.size w w' ∧ ((checkE ls = 0 ∧ ∃ v, e = .returned (.tuple #[v, .int .i64 0]) ∧ w'.ownsRow w.heap.size 3 1 v ls.length (ncells (fixL (opds ls)))) ∨
    (checkE ls ≠ 0 ∧ e = .returned (.tuple #[.slice none 0 0, .int .i64 (checkE ls)])))
theorem ones_snoc (k : Nat) : ncells (ones (k + 1)) = ncells (ones k) ++ [.int .i64 1] := by
  unfold ones ncells
  rw [List.replicate_succ']
  simp
theorem below_run {os : List Opd} (hf : Fit os) {L : List Nat} (h1 : LE L (fixL os)) : LE (needL os L) (fixL os) := by
  have := needL_mono os h1
  rwa [(fixL_fix hf).1] at this
theorem le_get {L M : List Nat} (h : LE L M) (h8 : ∀ i, M.getD i 0 ≤ 8) : ∀ i, L.getD i 0 ≤ 8 := fun i => Nat.le_trans (h.2 i) (h8 i)
set_option maxRecDepth 100000 in
set_option maxHeartbeats 4000000 in
theorem rLengths (ls : List LineL) (hok : ∀ x ∈ ls, LOk x) (hn : ls.length ≤ 4096) (A : Option Addr) (c B : Nat) (w : World) (hr : Reads w w.heap.size 5 A ls.length (linesL ls)) (hL : Laid5 B w) (hB : B ≤ w.heap.size) :
    Calls Tryz.prog 9 #[.slice A (ls.length : Nat) c] w (RetLenR ls w) := by
  have HC := Lib.hid (rCheck ls hok A ls.length c (by omega) B w hr hL hB)
  have HR := Lib.hid hr
  by_cases he : checkE ls = 0
  · rw [he] at HC
    have hfit : Fit (opds ls) := opds_fit hn fun x hx => (hok x hx).arg
    obtain ⟨ff, f1, f8⟩ := fixL_fix hfit
    have hNE := fun (L : List Nat) (hl : L.length = ls.length) (h9 : ∀ i, L.getD i 0 ≤ 9) A2 c2 w1 h1 h2 => rNeed ls hok he hn hl h9 A A2 c c2 w1 h1 h2
    have HN := Lib.hid hNE
    have HE := Lib.hid he
    obtain ⟨i0, hi0, hz0, hz1, hz2⟩ := info_parts int_info
    obtain ⟨n, hnn⟩ : ∃ n, ls.length = n := ⟨_, rfl⟩
    have hon : (opds ls).length = n := by rw [opds_len, hnn]
    have HFIT := Lib.hid hfit
    have HF8 := Lib.hid f8
    have HF1 := Lib.hid f1
    have HON := Lib.hid hon
    have HFL := Lib.hid (fixL_len hfit)
    unfold RetLenR
    rw [hnn] at HC HR HN hn ⊢
    generalize opds ls = os at *
    have HN0 : Hid (∀ w1 : World, w1.ownsRow w.heap.size 3 1 (.slice none 0 0) 0 (ncells (ones 0))) := Lib.hid (fun _ => World.ownsRow_nil _ _ _ _)
    clear hok hL hB hr he hfit ff f1 f8 hNE hnn hon
    go_enter Tryz.func9, Tryz.ntmps9
    go_wp2_with (go_at_call 13; (with_reducible refine HC.out.mono ?_); rintro e w1 ⟨rfl, hb1⟩)
    have K1 := Lib.hid hb1
    have N1 := Lib.hid (HN0.out w1)
    clear hb1 HN0 HC
    go_loopw [5, 6] (fun v p wr => ∃ k : Nat, k ≤ n ∧ p = .int .i64 k ∧ Hid (Below w.heap.size w wr) ∧ Hid (wr.ownsRow w.heap.size 3 1 v k (ncells (ones k)))) (fun _ p _ => n - (intOf p).toNat)
    case atStart => exact ⟨0, by omega, rfl, K1, N1⟩
    case round =>
      clear K1 N1
      obtain ⟨k, hk, rfl, K, N⟩ := hrel
      by_cases hlt : k < n
      · have hltI : (k : Int) < n := by omega
        have b0 := Blk.new wr 3 #[.int .i64 1]
        have N2 := Lib.hid (N.out.alloc (.cells #[.int .i64 1] 3))
        have K2 := Lib.hid (K.out.alloc K.out.size (.cells #[.int .i64 1] 3))
        have hks := K.out.size
        go_wp2_with (at_builtin; refine wpList_app_own rfl (.tmp 19) (.tmp 20) rfl Tryz.underlying26 hi0 hz0 hz1 hz2 rfl (by decide) N2.out (by simp; omega) rfl wr.heap.size 1 1 #[.int .i64 1] rfl b0 rfl (by simp [Value.oneCell']) (by omega) (by omega) ?_; intro v' w' hown hg hb)
        go_roundw
        case rel => exact ⟨k + 1, by omega, by go_num, Lib.hid (K2.out.trans hb), Lib.hid (by rw [ones_snoc]; exact hown)⟩
        case measure => simp [intOf]; omega
      · have hltI : ¬ (k : Int) < n := by omega
        obtain rfl : n = k := by omega
        have HLE0 : Hid (LE (ones n) (fixL os)) := Lib.hid (by rw [← HON.out]; exact HF1.out)
        have HLN0 : Hid (LE (ones n) (needL os (ones n))) := Lib.hid (by have := ones_need os; rwa [HON.out] at this)
        go_wp2
        go_loopw [5] (fun v wr => ∃ L : List Nat, Hid (LE L (fixL os)) ∧ Hid (LE L (needL os L)) ∧ Hid (Below w.heap.size w wr) ∧ Hid (wr.ownsRow w.heap.size 3 1 v n (ncells L))) (fun v wr => roomV n v wr)
        case atStart => exact ⟨ones n, HLE0, HLN0, K, N⟩
        case round =>
          clear K N HLE0 HLN0
          obtain ⟨L, HLE, HLN, K, N⟩ := hrel
          obtain ⟨A2, c2, rfl⟩ := own_form N.out
          have HLL : Hid (L.length = n) := Lib.hid (by have h1 := HLE.out.1; rw [HFL.out, HON.out] at h1; exact h1)
          have H8 := Lib.hid (le_get HLE.out HF8.out)
          have HNC := Lib.hid (HN.out L HLL.out (fun i => Nat.le_trans (H8.out i) (by decide)) A2 c2 wr ((HR.out.below K.out).more K.out.size) (Reads.of_own N.out))
          have HRM := Lib.hid (roomV_eq N.out)
          have HL2 := Lib.hid (below_run HFIT.out HLE.out)
          have HN2 := Lib.hid (needL_mono os HLN.out)
          have HA8 := Lib.hid (adr_le H8.out n)
          have HNL : Hid ((needL os L).length = n) := Lib.hid (by rw [needL_len, HON.out])
          by_cases heq : needL os L = L
          · have hfx : L = fixL os := fixL_of HLE.out (by rw [heq]; exact LE.refl _)
            have HFX := Lib.hid hfx
            rw [heq] at HNC
            clear heq hfx HN2 HL2 HRM
            have ha := HA8.out
            have HAD := Lib.hid (fun w1 h1 => rAddress L (fun i => Nat.le_trans (H8.out i) (by decide)) A2 n c2 n (by omega) w1 h1 (by omega))
            rw [Int.toNat_natCast] at HAD
            generalize adr L n = ad at *
            go_wp2_with (first
              | (go_at_call 20; (with_reducible refine HNC.out.mono ?_); intro e w2 hret; obtain ⟨A3, c3, rfl, hown3, hb3, hle3⟩ := hret.cell
                 have N3 := Lib.hid (N.out.keep hb3 (Nat.le_refl _))
                 have K3 := Lib.hid (K.out.trans (hb3.mono K.out.size))
                 have HSI := Lib.hid (sInts A3 A2 n c3 n c2 L L w2 (Reads.of_own hown3) (Reads.of_own N3.out) (by omega))
                 rw [decide_eq_true rfl] at HSI
                 clear hown3 hb3)
              | (go_at_call 10; (with_reducible refine HSI.out.mono ?_); rintro e w4 ⟨rfl, hb4⟩
                 have N4 := Lib.hid (N3.out.keep hb4 (Nat.le_refl _))
                 have K4 := Lib.hid (K3.out.trans (hb4.mono K3.out.size))
                 have HA4 := Lib.hid (HAD.out w4 (Reads.of_own N4.out))
                 clear hb4)
              | (go_at_call 21; (with_reducible refine HA4.out.mono ?_); rintro e w5 ⟨rfl, hb5⟩
                 have N5 := Lib.hid (N4.out.keep hb5 (Nat.le_refl _))
                 have K5 := Lib.hid (K4.out.trans (hb5.mono K4.out.size))))
            go_ret2
            exact ⟨K5.out, .inl ⟨HE.out, _, rfl, by rw [← HFX.out]; exact N5.out⟩⟩
          · have HNE := Lib.hid heq
            clear heq
            go_wp2_with (first
              | (go_at_call 20; (with_reducible refine HNC.out.mono ?_); intro e w2 hret; obtain ⟨A3, c3, rfl, hown3, hb3, hle3⟩ := hret.cell
                 have N3 := Lib.hid (World.ownsRow.weak hown3 K.out.size)
                 have K3 := Lib.hid (K.out.trans (hb3.mono K.out.size))
                 have HSI := Lib.hid (sInts A3 A2 n c3 n c2 (needL os L) L w2 (Reads.of_own hown3) (Reads.of_own (N.out.keep hb3 (Nat.le_refl _))) (by omega))
                 rw [decide_eq_false HNE.out] at HSI
                 clear hown3 hb3)
              | (go_at_call 10; (with_reducible refine HSI.out.mono ?_); rintro e w4 ⟨rfl, hb4⟩
                 have N4 := Lib.hid (N3.out.keep hb4 (Nat.le_refl _))
                 have K4 := Lib.hid (K3.out.trans (hb4.mono K3.out.size))
                 clear hb4))
            go_roundw
            case rel => exact ⟨needL os L, HL2, HN2, K4, N4⟩
            case measure =>
              rw [HRM.out, roomV_eq N4.out]
              have h1 := adr_lt HLN.out (fun h => HNE.out h.symm)
              rw [HLL.out, HNL.out] at h1
              have := HA8.out
              omega
  · have hne : (checkE ls != 0) = true := by simpa using he
    have HE := Lib.hid he
    clear hL hB hr hok he
    unfold RetLenR
    generalize ls.length = n at *
    go_enter Tryz.func9, Tryz.ntmps9
    go_wp2_with (go_at_call 13; (with_reducible refine HC.out.mono ?_); rintro e w1 ⟨rfl, hb1⟩)
    go_ret2
    exact ⟨hb1, .inr ⟨HE.out, rfl⟩⟩
end Go.Proofs.YtjnngeakdclkbaaGreatDoor

/- Assemble of the reference, walked. -/
namespace Go.Proofs.YtjnngeakdclkbaaGreatDoor
open Go.RowKit Go.Maps Go.WideMaps Go.Shelf
set_option linter.unusedSimpArgs false
set_option linter.unusedVariables false

theorem own_grown {w w' : World} {B e size n : Nat} {v : Value} {xs : List Value} {row : Option Nat} (h : w.ownsRow B e size v n xs) (hg : w.grownBy w' row) (hne : ∀ g, v.ownBlock = some g → some g ≠ row) : w'.ownsRow B e size v n xs := by
  refine ⟨h.1, ?_⟩
  rcases h.2 with hn | ⟨g, cap, cur, rfl, hb, hh, rest⟩
  · exact .inl hn
  · exact .inr ⟨g, cap, cur, rfl, hb, (hg.block g (Array.getElem?_eq_some_iff.1 hh).1 (hne g rfl)).trans hh, rest⟩
theorem own_own_ne {w : World} {B e size n B' e' size' n' : Nat} {v v' : Value} {xs xs' : List Value} (h : w.ownsRow B e size v n xs) (h' : w.ownsRow B' e' size' v' n' xs') (hne : e ≠ e') : ∀ g, v.ownBlock = some g → some g ≠ v'.ownBlock := by
  intro g hg
  rcases h.2 with ⟨rfl, _⟩ | ⟨g1, cap, cur, rfl, hb, hh, rest⟩
  · simp [Value.ownBlock] at hg
  · have : g1 = g := by simpa [Value.ownBlock] using hg
    subst this
    rcases h'.2 with ⟨rfl, _⟩ | ⟨g2, cap', cur', rfl, hb', hh', rest'⟩
    · simp [Value.ownBlock]
    · intro e1
      have : g1 = g2 := by simpa [Value.ownBlock] using e1
      subst this
      rw [hh] at hh'
      injection hh' with hh'
      injection hh' with _ e2
      exact hne e2
theorem adrs_take (F : List Nat) (n k : Nat) (hk : k < n) : (adrs F n).take (k + 1) = (adrs F n).take k ++ [adr F k] := by
  rw [List.take_add_one, adrs_get F (show k ≤ n by omega)]; rfl
def RetAsmR (ls : List LineL) (w : World) (e : Ending) (w' : World) : Prop :=
  Below w.heap.size w w' ∧ ((checkE ls = 0 ∧ ∃ v u, e = .returned (.tuple #[v, u, .int .i64 0]) ∧ w'.ownsRow w.heap.size 5 1 v (codeL ls).length (bcells (codeL ls)) ∧
      w'.ownsRow w.heap.size 3 1 u ls.length (ncells ((adrs (fixL (opds ls)) ls.length).take ls.length))) ∨
    (checkE ls ≠ 0 ∧ e = .returned (.tuple #[.slice none 0 0, .slice none 0 0, .int .i64 (checkE ls)])))
theorem RetLenR.zero {ls : List LineL} {w w' : World} {e : Ending} (he : checkE ls = 0) (h : RetLenR ls w e w') :
    Below w.heap.size w w' ∧ ∃ v, e = .returned (.tuple #[v, .int .i64 0]) ∧ w'.ownsRow w.heap.size 3 1 v ls.length (ncells (fixL (opds ls))) := by
  refine ⟨h.1, ?_⟩
  rcases h.2 with h | h
  · exact h.2
  · exact absurd he h.1
theorem RetLenR.not {ls : List LineL} {w w' : World} {e : Ending} (he : checkE ls ≠ 0) (h : RetLenR ls w e w') :
    Below w.heap.size w w' ∧ e = .returned (.tuple #[.slice none 0 0, .int .i64 (checkE ls)]) := by
  refine ⟨h.1, ?_⟩
  rcases h.2 with h | h
  · exact absurd h.1 he
  · exact h.2
set_option maxRecDepth 100000 in
set_option maxHeartbeats 4000000 in
theorem rAssemble (ls : List LineL) (hok : ∀ x ∈ ls, LOk x) (hn : ls.length ≤ 4096) (A : Option Addr) (c B : Nat) (w : World) (hr : Reads w w.heap.size 5 A ls.length (linesL ls)) (hL : Laid5 B w) (hB : B ≤ w.heap.size) :
    Calls Tryz.prog 15 #[.slice A (ls.length : Nat) c] w (RetAsmR ls w) := by
  have HC := Lib.hid (rLengths ls hok hn A c B w hr hL hB)
  have HR := Lib.hid hr
  unfold RetAsmR
  by_cases he : checkE ls = 0
  · have HC0 := Lib.hid (HC.out.mono fun e w' h => h.zero he)
    clear HC
    have hfit : Fit (opds ls) := opds_fit hn fun x hx => (hok x hx).arg
    have h8 := fix8 hfit (LE.refl _)
    have hFl : (fixL (opds ls)).length = ls.length := by rw [fixL_len hfit, opds_len]
    have h9 : ∀ i, (fixL (opds ls)).getD i 0 ≤ 9 := fun i => Nat.le_trans (h8 i) (by decide)
    have hv32 : ∀ (k : Nat) (x : LineL), ls[k]? = some x → is32 (valO (fixL (opds ls)) (opdL ls k x)) := fun k x hx => val_is32 hfit h8 (opds_get hx)
    have hcl := codeK_len hv32
    have hend := codeK_end ls
    have HOP := Lib.hid (fun (k : Nat) (x : LineL) (hx : ls[k]? = some x) A2 c2 w1 h1 h2 => rOperand ls hx hn hFl h9 A A2 c c2 w1 h1 h2)
    have HPU := Lib.hid (fun (k : Nat) (x : LineL) (hx : ls[k]? = some x) w1 => rPut04 x.fn _ (hv32 k x hx) (valid_code (check_valid he hx)) w1)
    have HAD := Lib.hid (fun A2 c2 (k : Nat) (hk : (k : Int) ≤ ls.length) w1 h1 => rAddress (fixL (opds ls)) h9 A2 ls.length c2 (k : Int) hk w1 h1 (by omega))
    have hpos : ∀ (k : Nat) (x : LineL), ls[k]? = some x → (encI x.fn (valO (fixL (opds ls)) (opdL ls k x))).length ≤ 8 := fun k x hx => encI_small _ _ (hv32 k x hx)
    have HAT := Lib.hid (fun k (hk : k < ls.length) => adrs_take (fixL (opds ls)) ls.length k hk)
    generalize fixL (opds ls) = F at *
    obtain ⟨i0, hi0, hz0, hz1, hz2⟩ := info_parts int_info
    obtain ⟨i1, hi1, hy0, hy1, hy2⟩ := info_parts byte_info
    obtain ⟨n, hnn⟩ : ∃ n, ls.length = n := ⟨_, rfl⟩
    rw [hnn] at HR HC0 HOP HAD HAT hend hn ⊢
    have HE := Lib.hid he
    have HCL := Lib.hid hcl
    have HEND := Lib.hid hend
    have HV := Lib.hid hv32
    have HP8 := Lib.hid hpos
    have HFL := Lib.hid hFl
    have HNN := Lib.hid hnn
    clear hok hL hB hr he hfit h8 h9 hFl hcl hend hv32 hpos hnn
    go_enter Tryz.func15, Tryz.ntmps15
    go_wp2_with (go_at_call 9; (with_reducible refine HC0.out.mono ?_); rintro e w1 ⟨hb1, v1, rfl, hl1⟩)
    obtain ⟨A2, c2, rfl⟩ := own_form hl1
    have K1 := Lib.hid hb1
    have L1 := Lib.hid hl1
    have C1 : Hid (w1.ownsRow w.heap.size 5 1 (.slice none 0 0) (codeK F ls 0).length (bcells (codeK F ls 0))) := Lib.hid (World.ownsRow_nil _ _ _ _)
    have T1 : Hid (w1.ownsRow w1.heap.size 3 1 (.slice none 0 0) 0 (ncells ((adrs F n).take 0))) := Lib.hid (World.ownsRow_nil _ _ _ _)
    have hw1 : w.heap.size ≤ w1.heap.size := hb1.size
    have HLB := Lib.hid (fun g e => (hl1.lt g e).2)
    clear hb1 hl1 HC0
    go_loopw [7, 8, 9] (fun v u p wr => ∃ k : Nat, k ≤ n ∧ p = .int .i64 k ∧ Hid (Below w.heap.size w wr) ∧ Hid (w1.heap.size ≤ wr.heap.size) ∧ Hid (wr.ownsRow w.heap.size 3 1 (.slice A2 n c2) n (ncells F)) ∧
      Hid (wr.ownsRow w.heap.size 5 1 v (codeK F ls k).length (bcells (codeK F ls k))) ∧ Hid (wr.ownsRow w1.heap.size 3 1 u k (ncells ((adrs F n).take k)))) (fun _ _ p _ => n - (intOf p).toNat)
    case atStart => exact ⟨0, by omega, rfl, K1, Lib.hid (Nat.le_refl _), L1, C1, T1⟩
    case round =>
      clear K1 L1 C1 T1
      obtain ⟨k, hk, rfl, K, HW, L, C, T⟩ := hrel
      by_cases hlt : k < n
      · have hltI : (k : Int) < n := by omega
        obtain ⟨b, off, x, rfl, hb, hx, c0, c1, c2', c3, c4⟩ := lines_at (HR.out.below K.out) hlt
        have HX := Lib.hid hx
        have HAD1 := Lib.hid (fun w1 h1 => HAD.out A2 c2 k (by omega) w1 h1)
        rw [Int.toNat_natCast] at HAD1
        have HATK := Lib.hid (HAT.out k hlt)
        have HADR := Lib.hid (HAD1.out wr (Reads.of_own L.out))
        have hsuc := codeK_succ (F := F) hx
        have HSUC := Lib.hid hsuc
        have hp8 := HP8.out k x hx
        have hckl := HCL.out k
        have hel := encI_len x.fn (valO F (opdL ls k x))
        have HCO := Lib.hid (HOP.out k x hx A2 c2)
        have HCP := Lib.hid (HPU.out k x hx)
        unfold RetP at HCP
        clear hx hsuc HAD HAT HOP HPU HAD1 c0 c2' c3 c4
        generalize adr F k = ak at *
        generalize valO F (opdL ls k x) = vv at *
        generalize encI x.fn vv = en at *
        generalize codeK F ls k = ck at *
        go_upto_region 10 with (first
          | (go_at_call 21; (with_reducible refine HADR.out.mono ?_); rintro e w2 ⟨rfl, hb2⟩
             have K2 := Lib.hid ((K.out.trans (hb2.mono K.out.size)).alloc (K.out.trans (hb2.mono K.out.size)).size (.cells #[.int .i64 ak] 3))
             have b0 := Blk.new w2 3 #[.int .i64 ak]
             have L2 := Lib.hid ((L.out.keep hb2 (Nat.le_refl _)).alloc (.cells #[.int .i64 ak] 3))
             have C2 := Lib.hid ((C.out.keep hb2 (Nat.le_refl _)).alloc (.cells #[.int .i64 ak] 3))
             have T2 := Lib.hid ((T.out.keep hb2 (Nat.le_refl _)).alloc (.cells #[.int .i64 ak] 3))
             have hw2 : w1.heap.size ≤ w2.heap.size := Nat.le_trans HW.out hb2.size
             have c1' := (hb2.cell (p := ⟨b, off + k * 5 + 1, none⟩) (Nat.lt_of_lt_of_le hb K.out.size)).trans c1
             have hbs2 : b < w2.heap.size := Nat.lt_of_lt_of_le hb (Nat.le_trans K.out.size hb2.size)
             clear K L C T HW c1)
          | (at_builtin; refine wpList_app_own rfl (.tmp 26) (.tmp 30) rfl Tryz.underlying26 hi0 hz0 hz1 hz2 rfl (by decide) T2.out (by simp; omega) rfl w2.heap.size 1 1 #[.int .i64 ak] rfl b0 rfl (by simp [Value.oneCell']) (by omega) (by omega) ?_; intro u' w3 hown hg hb3))
        have K3 := Lib.hid (K2.out.trans (hb3.mono hw1))
        have HNE1 := Lib.hid (fun g e => (T2.out.lt g e).1)
        have L3 := Lib.hid (own_grown L2.out hg (fun g e e2 => by have := HLB.out g e; have := HNE1.out g e2.symm; omega))
        have C3 := Lib.hid (own_grown C2.out hg (own_own_ne C2.out T2.out (by decide)))
        have c1'' := (World.cell?_of_block (a := ⟨b, off + k * 5 + 1, none⟩) (hg.block b (by simp; omega) (fun e => by have := HNE1.out b e.symm; omega))).trans ((World.cell?_alloc_lt w2 (.cells #[.int .i64 ak] 3) ⟨b, off + k * 5 + 1, none⟩ hbs2).trans c1')
        have T3 : Hid (w3.ownsRow w1.heap.size 3 1 u' (k + 1) (ncells ((adrs F n).take (k + 1)))) := Lib.hid (by rw [HATK.out, ncells_append]; exact hown)
        have hw3 : w1.heap.size ≤ w3.heap.size := Nat.le_trans hw2 (by have := hb3.size; simp at this; omega)
        have hbs3 : b < w3.heap.size := by have := hg.size; simp at this; omega
        have HC1 := HCO.out w3.drew ((HR.out.below K3.out).more K3.out.size) (Reads.of_own L3.out)
        have HCO3 := Lib.hid HC1
        have c1d : w3.drew.cell? ⟨b, off + k * 5 + 1, none⟩ = some (.int .u8 x.fn) := c1''
        have hbd : b < w3.drew.heap.size := hbs3
        have K3d := Lib.hid (show Below w.heap.size w w3.drew from K3.out.drew)
        have L3d := Lib.hid L3.out.drew'
        have C3d := Lib.hid C3.out.drew'
        have T3d := Lib.hid T3.out.drew'
        have hd3 : w1.heap.size ≤ w3.drew.heap.size := hw3
        clear HC1 HCO K2 L2 C2 T2 K3 L3 C3 T3 c1' c1'' hown hg hb3 b0 HADR hb2
        go_region_held3 (fun w' => w'.cell? ⟨b, off + k * 5 + 1, none⟩ = some (.int .u8 x.fn)) (first | exact c1d | exact (hb4.cell hbd).trans c1d | exact (hb5.cell hbd4).trans c1e)
          (first
           | (go_at_call 28; (with_reducible refine HCO3.out.mono ?_); rintro e w4 ⟨rfl, hb4⟩
              have c1e := (hb4.cell hbd).trans c1d
              have hbd4 : b < w4.heap.size := Nat.lt_of_lt_of_le hbd hb4.size)
           | (go_at_call 27; (with_reducible refine (HCP.out _).mono ?_); rintro e w5 ⟨A5, c5, rfl, hown5, hb5, hle5⟩))
        have K5 := Lib.hid ((K3d.out.trans (hb4.mono K3d.out.size)).trans (hb5.mono (Nat.le_trans K3d.out.size hb4.size)))
        have L5 := Lib.hid ((L3d.out.keep hb4 (Nat.le_refl _)).keep hb5 (Nat.le_refl _))
        have C5 := Lib.hid ((C3d.out.keep hb4 (Nat.le_refl _)).keep hb5 (Nat.le_refl _))
        have T5 := Lib.hid ((T3d.out.keep hb4 (Nat.le_refl _)).keep hb5 (Nat.le_refl _))
        have hd5 : w1.heap.size ≤ w5.heap.size := Nat.le_trans hd3 (Nat.le_trans hb4.size hb5.size)
        have R5 := Reads.of_own hown5
        have h1c : ∀ u ∈ bcells en, u.oneCell' = true := by
          intro u hu
          obtain ⟨z, -, rfl⟩ := List.mem_map.1 hu
          rfl
        have hlv : lenV vv = en.length := hel.symm
        rw [hlv] at R5
        rw [hlv]
        generalize hlen : en.length = lv at *
        clear hb4 hb5 hown5 K3d L3d C3d T3d c1d hel hlv
        go_wp2_with (at_builtin; refine wpList_append_any w5 rfl (.tmp 46) (.tmp 47) 35 rfl w.heap.size 5 i1 _ 1 1 Tryz.underlying35 hi1 hy0 hy1 hy2 rfl (by decide) _ _ _ rfl C5.out w5.heap.size A5 lv c5 (bcells en) rfl R5 h1c (by unfold maxLen; omega) (by omega) (Nat.le_trans hw1 hd5) ?_; intro v' w6 hown6 hg6 hat6
                     have HNE5 := Lib.hid (fun g e => (C5.out.lt g e).1)
                     have K6 := Lib.hid (K5.out.grown hg6 K5.out.size (fun g e => HNE5.out g e))
                     have L6 := Lib.hid (own_grown L5.out hg6 (own_own_ne L5.out C5.out (by decide)))
                     have T6 := Lib.hid (own_grown T5.out hg6 (own_own_ne T5.out C5.out (by decide)))
                     have hd6 : Hid (w1.heap.size ≤ w6.heap.size) := Lib.hid (Nat.le_trans hd5 hg6.size)
                     have C6 : Hid (w6.ownsRow w.heap.size 5 1 v' (ck ++ en).length (bcells (ck ++ en))) := Lib.hid (by rw [List.length_append, hlen, bcells_append]; exact hown6)
                     clear hg6 hat6 hown6 K5 L5 C5 T5 R5)
        go_roundw
        case rel => exact ⟨k + 1, by omega, by go_num, K6, hd6, L6, by rw [HSUC.out]; exact C6, T6⟩
        case measure => simp [intOf]; omega
      · have hltI : ¬ (k : Int) < n := by omega
        obtain rfl : n = k := by omega
        rw [HEND.out] at C
        go_wp2
        go_ret3
        exact ⟨K.out, .inl ⟨HE.out, _, _, rfl, C.out, World.ownsRow.weak T.out hw1⟩⟩
  · have HC0 := Lib.hid (HC.out.mono fun e w' h => h.not he)
    have hne : (checkE ls != 0) = true := by simpa using he
    have HE := Lib.hid he
    clear HC hL hB hr hok he
    generalize ls.length = n at *
    go_enter Tryz.func15, Tryz.ntmps15
    go_wp2_with (go_at_call 9; (with_reducible refine HC0.out.mono ?_); rintro e w1 ⟨hb1, rfl⟩)
    go_ret3
    exact ⟨hb1, .inr ⟨HE.out, rfl⟩⟩
end Go.Proofs.YtjnngeakdclkbaaGreatDoor

/- AsmLengths and AsmCode, walked. -/
namespace Go.Proofs.YtjnngeakdclkbaaGreatDoor
open Go.RowKit Go.Maps Go.WideMaps Go.Shelf
set_option linter.unusedSimpArgs false
set_option linter.unusedVariables false

section
variable (ls : List LineL) (hok : ∀ x ∈ ls, LOk x) (A : Option Addr) (c : Nat) (B : Nat) (w : World) (hr : Reads w w.heap.size 5 A ls.length (linesL ls)) (hL : Laid5 B w) (hm : MaxAt B w) (hB : B ≤ w.heap.size) (hgB : 1 < B)
include hok hr hL hm hB hgB
set_option maxRecDepth 100000 in
set_option maxHeartbeats 4000000 in
theorem lengths_true : Calls Tryz.prog 3 #[.slice A (ls.length : Nat) c] w (RetV (.bool true) w) := by
  have S0 := Lib.hid (S6.start hL hm hB)
  have HH := Lib.hid (fun w h1 h2 h3 => lHead B w h1 h2 h3 hgB)
  have HG := Lib.hid (lGreat A ls.length c w)
  by_cases hn : 120 < ls.length
  · rw [decide_eq_true hn] at HG
    clear hL hm hB hr hok
    generalize ls.length = n at *
    go_enter Tryz.func3, Tryz.ntmps3
    go_wp2_with (first
      | (go_at_call 5; (with_reducible refine HG.out.mono ?_); rintro e w1 ⟨rfl, hb1⟩
         have S1 := Lib.hid (S0.out.call hb1))
      | (go_at_call 6; refine (HH.out _ S1.out.l S1.out.m S1.out.b).mono ?_; rintro e w2 ⟨rfl, hb2⟩))
    go_ret
    exact ⟨rfl, (S1.out.call hb2).k⟩
  · rw [decide_eq_false hn] at HG
    have HOW := Lib.hid (fun w1 (hr : Reads w1 w1.heap.size 5 A ls.length (linesL ls)) => lOwn A ls.length c (linesL ls) (linesL_one ls) (by omega) w1 hr)
    have HPL := Lib.hid (fun A2 c2 w1 hr h1 h2 => pLengths ls hok (by omega) A2 c2 B w1 hr h1 h2)
    have HRL := Lib.hid (fun w1 hr h1 h2 => rLengths ls hok (by omega) A c B w1 hr h1 h2)
    have HSL := Lib.hid (fun A2 c2 w1 h1 h2 => sLines A2 A ls.length c2 ls.length c ls ls w1 h1 h2 (by omega))
    rw [decide_eq_true rfl] at HSL
    have HMY := Lib.hid (fun w1 hr h1 h2 => pMayL ls hok (by omega) A c B w1 hr h1 h2)
    have HCK := Lib.hid (fun w1 hr h1 h2 => rCheck ls hok A ls.length c (by omega) B w1 hr h1 h2)
    have HR := Lib.hid hr
    by_cases he : checkE ls = 0
    · have HPL0 := Lib.hid (fun A2 c2 w1 hr h1 h2 => (HPL.out A2 c2 w1 hr h1 h2).mono fun e w' h => h.zero he)
      have HRL0 := Lib.hid (fun w1 hr h1 h2 => (HRL.out w1 hr h1 h2).mono fun e w' h => h.zero he)
      rw [he] at HMY HCK
      have hFl : (fixL (opds ls)).length = ls.length := by rw [fixL_len (opds_fit (by omega) fun x hx => (hok x hx).arg), opds_len]
      clear HPL HRL hL hm hB hr hok he
      generalize fixL (opds ls) = F at *
      generalize hll : linesL ls = LL at *
      generalize ls.length = n at *
      have HFL := Lib.hid hFl
      clear hFl hll
      go_enter Tryz.func3, Tryz.ntmps3
      go_wp2_with (first
        | (go_at_call 5; (with_reducible refine HG.out.mono ?_); rintro e w1 ⟨rfl, hb1⟩
           have S1 := Lib.hid (S0.out.call hb1)
           have R1 := Lib.hid ((HR.out.below hb1).more hb1.size)
           clear hb1)
        | (go_at_call 7; (with_reducible refine (HOW.out _ R1.out).mono ?_); intro e w2 hret; obtain ⟨ao, co, rfl, ho2, hb2, hle2⟩ := hret.cell
           have S2 := Lib.hid (S1.out.call hb2)
           have O2 := Lib.hid ho2
           have R2 := Lib.hid ((R1.out.below hb2).more hb2.size)
           clear ho2 hb2)
        | (go_at_call 8; (with_reducible refine (HPL0.out _ _ _ (Reads.of_own O2.out) S2.out.l S2.out.b).mono ?_); rintro e w3 ⟨hb3, gn, rfl, hn3, hgn⟩
           have S3 := Lib.hid (S2.out.call hb3)
           have O3 := Lib.hid (O2.out.keep hb3 (Nat.le_refl _))
           have R3 := Lib.hid ((R2.out.below hb3).more hb3.size)
           have N3 := Lib.hid hn3
           clear hn3 hb3)
        | (go_at_call 9; (with_reducible refine (HRL0.out _ R3.out S3.out.l S3.out.b).mono ?_); rintro e w4 ⟨hb4, vw, rfl, hw4⟩
           obtain ⟨aw, cw, rfl⟩ := own_form hw4
           have S4 := Lib.hid (S3.out.call hb4)
           have O4 := Lib.hid (O3.out.keep hb4 (Nat.le_refl _))
           have R4 := Lib.hid ((R3.out.below hb4).more hb4.size)
           have HSI := Lib.hid (sInts (some ⟨gn, 0, none⟩) aw n n n cw F F w4 (Reads.of_blk (N3.out.call hb4) (by rw [ncells_len]; exact HFL.out)) (Reads.of_own hw4) (by omega))
           rw [decide_eq_true rfl] at HSI
           clear hw4 hb4)
        | (go_at_call 10; (with_reducible refine HSI.out.mono ?_); rintro e w5 ⟨rfl, hb5⟩
           have S5' := Lib.hid (S4.out.call hb5)
           have O5 := Lib.hid (O4.out.keep hb5 (Nat.le_refl _))
           have R5 := Lib.hid ((R4.out.below hb5).more hb5.size)
           clear hb5)
        | (go_at_call 11; (with_reducible refine (HSL.out _ _ _ (Reads.of_own O5.out) R5.out).mono ?_); rintro e w6 ⟨rfl, hb6⟩
           have S6' := Lib.hid (S5'.out.call hb6)
           have R6 := Lib.hid ((R5.out.below hb6).more hb6.size)
           clear hb6)
        | (go_at_call 12; (with_reducible refine (HMY.out _ R6.out S6'.out.l S6'.out.b).mono ?_); rintro e w7 ⟨rfl, hb7⟩
           have S7 := Lib.hid (S6'.out.call hb7)
           have R7 := Lib.hid ((R6.out.below hb7).more hb7.size)
           clear hb7)
        | (go_at_call 13; (with_reducible refine (HCK.out _ R7.out S7.out.l S7.out.b).mono ?_); rintro e w8 ⟨rfl, hb8⟩
           have S8 := Lib.hid (S7.out.call hb8)
           clear hb8)
        | (go_at_call 6; refine (HH.out _ S8.out.l S8.out.m S8.out.b).mono ?_; rintro e w9 ⟨rfl, hb9⟩
           have K9 := Lib.hid (S8.out.call hb9).k))
      go_ret
      exact ⟨rfl, K9.out⟩
    · have HPL0 := Lib.hid (fun A2 c2 w1 hr h1 h2 => (HPL.out A2 c2 w1 hr h1 h2).mono fun e w' h => h.not he)
      have HRL0 := Lib.hid (fun w1 hr h1 h2 => (HRL.out w1 hr h1 h2).mono fun e w' h => h.not he)
      have hz : (checkE ls == 0) = false := by simpa using he
      clear HPL HRL hL hm hB hr hok he
      generalize checkE ls = ee at *
      generalize hll : linesL ls = LL at *
      generalize ls.length = n at *
      clear hll
      go_enter Tryz.func3, Tryz.ntmps3
      go_wp2_with (first
        | (go_at_call 5; (with_reducible refine HG.out.mono ?_); rintro e w1 ⟨rfl, hb1⟩
           have S1 := Lib.hid (S0.out.call hb1)
           have R1 := Lib.hid ((HR.out.below hb1).more hb1.size)
           clear hb1)
        | (go_at_call 7; (with_reducible refine (HOW.out _ R1.out).mono ?_); intro e w2 hret; obtain ⟨ao, co, rfl, ho2, hb2, hle2⟩ := hret.cell
           have S2 := Lib.hid (S1.out.call hb2)
           have O2 := Lib.hid ho2
           have R2 := Lib.hid ((R1.out.below hb2).more hb2.size)
           clear ho2 hb2)
        | (go_at_call 8; (with_reducible refine (HPL0.out _ _ _ (Reads.of_own O2.out) S2.out.l S2.out.b).mono ?_); rintro e w3 ⟨hb3, rfl⟩
           have S3 := Lib.hid (S2.out.call hb3)
           have O3 := Lib.hid (O2.out.keep hb3 (Nat.le_refl _))
           have R3 := Lib.hid ((R2.out.below hb3).more hb3.size)
           clear hb3)
        | (go_at_call 9; (with_reducible refine (HRL0.out _ R3.out S3.out.l S3.out.b).mono ?_); rintro e w4 ⟨hb4, rfl⟩
           have S4 := Lib.hid (S3.out.call hb4)
           have O4 := Lib.hid (O3.out.keep hb4 (Nat.le_refl _))
           have R4 := Lib.hid ((R3.out.below hb4).more hb4.size)
           have HSI := Lib.hid (sInts none none 0 0 0 0 [] [] w4 Reads.none_ Reads.none_ (by omega))
           rw [decide_eq_true rfl] at HSI
           clear hb4)
        | (go_at_call 10; (refine HSI.out.mono ?_); rintro e w5 ⟨rfl, hb5⟩
           have S5' := Lib.hid (S4.out.call hb5)
           have O5 := Lib.hid (O4.out.keep hb5 (Nat.le_refl _))
           have R5 := Lib.hid ((R4.out.below hb5).more hb5.size)
           clear hb5)
        | (go_at_call 11; (with_reducible refine (HSL.out _ _ _ (Reads.of_own O5.out) R5.out).mono ?_); rintro e w6 ⟨rfl, hb6⟩
           have S6' := Lib.hid (S5'.out.call hb6)
           have R6 := Lib.hid ((R5.out.below hb6).more hb6.size)
           clear hb6)
        | (go_at_call 12; (with_reducible refine (HMY.out _ R6.out S6'.out.l S6'.out.b).mono ?_); rintro e w7 ⟨rfl, hb7⟩
           have S7 := Lib.hid (S6'.out.call hb7)
           have R7 := Lib.hid ((R6.out.below hb7).more hb7.size)
           clear hb7)
        | (go_at_call 13; (with_reducible refine (HCK.out _ R7.out S7.out.l S7.out.b).mono ?_); rintro e w8 ⟨rfl, hb8⟩
           have S8 := Lib.hid (S7.out.call hb8)
           clear hb8)
        | (go_at_call 6; refine (HH.out _ S8.out.l S8.out.m S8.out.b).mono ?_; rintro e w9 ⟨rfl, hb9⟩
           have K9 := Lib.hid (S8.out.call hb9).k))
      go_ret
      exact ⟨rfl, K9.out⟩
set_option maxRecDepth 100000 in
set_option maxHeartbeats 4000000 in
theorem code_true : Calls Tryz.prog 4 #[.slice A (ls.length : Nat) c] w (RetV (.bool true) w) := by
  have S0 := Lib.hid (S6.start hL hm hB)
  have HH := Lib.hid (fun w h1 h2 h3 => lHead B w h1 h2 h3 hgB)
  have HG := Lib.hid (lGreat A ls.length c w)
  by_cases hn : 120 < ls.length
  · rw [decide_eq_true hn] at HG
    clear hL hm hB hr hok
    generalize ls.length = n at *
    go_enter Tryz.func4, Tryz.ntmps4
    go_wp2_with (first
      | (go_at_call 5; (with_reducible refine HG.out.mono ?_); rintro e w1 ⟨rfl, hb1⟩
         have S1 := Lib.hid (S0.out.call hb1))
      | (go_at_call 6; refine (HH.out _ S1.out.l S1.out.m S1.out.b).mono ?_; rintro e w2 ⟨rfl, hb2⟩))
    go_ret
    exact ⟨rfl, (S1.out.call hb2).k⟩
  · rw [decide_eq_false hn] at HG
    have HOW := Lib.hid (fun w1 (hr : Reads w1 w1.heap.size 5 A ls.length (linesL ls)) => lOwn A ls.length c (linesL ls) (linesL_one ls) (by omega) w1 hr)
    have HPL := Lib.hid (fun A2 c2 w1 hr h1 h2 => pAssemble ls hok (by omega) A2 c2 B w1 hr h1 h2)
    have HRL := Lib.hid (fun w1 hr h1 h2 => rAssemble ls hok (by omega) A c B w1 hr h1 h2)
    have HSL := Lib.hid (fun A2 c2 w1 h1 h2 => sLines A2 A ls.length c2 ls.length c ls ls w1 h1 h2 (by omega))
    rw [decide_eq_true rfl] at HSL
    have HR := Lib.hid hr
    by_cases he : checkE ls = 0
    · have HPL0 := Lib.hid (fun A2 c2 w1 hr h1 h2 => (HPL.out A2 c2 w1 hr h1 h2).mono fun e w' h => h.zero he)
      have HRL0 := Lib.hid (fun w1 hr h1 h2 => (HRL.out w1 hr h1 h2).mono fun e w' h =>
        show Below _ _ _ ∧ ∃ v u, _ from ⟨h.1, by
          rcases h.2 with h | h
          · exact h.2
          · exact absurd he h.1⟩)
      clear HPL HRL hL hm hB hr hok he
      generalize fixL (opds ls) = F at *
      generalize hll : linesL ls = LL at *
      generalize codeL ls = CL at *
      generalize ls.length = n at *
      have hat : (ncells (adrs F n)).length = n + 1 := by rw [ncells_len, adrs_len]
      have htk : (ncells (adrs F n)).take n = ncells ((adrs F n).take n) := by unfold ncells; rw [List.map_take]
      have HAT := Lib.hid hat
      have HTK := Lib.hid htk
      generalize hSC : strB CL = SC at *
      have HSC := Lib.hid hSC
      clear hll hat htk hSC
      go_enter Tryz.func4, Tryz.ntmps4
      go_wp2_with (first
        | (go_at_call 5; (with_reducible refine HG.out.mono ?_); rintro e w1 ⟨rfl, hb1⟩
           have S1 := Lib.hid (S0.out.call hb1)
           have R1 := Lib.hid ((HR.out.below hb1).more hb1.size)
           clear hb1)
        | (go_at_call 7; (with_reducible refine (HOW.out _ R1.out).mono ?_); intro e w2 hret; obtain ⟨ao, co, rfl, ho2, hb2, hle2⟩ := hret.cell
           have S2 := Lib.hid (S1.out.call hb2)
           have O2 := Lib.hid ho2
           have R2 := Lib.hid ((R1.out.below hb2).more hb2.size)
           clear ho2 hb2)
        | (go_at_call 14; (with_reducible refine (HPL0.out _ _ _ (Reads.of_own O2.out) S2.out.l S2.out.b).mono ?_); rintro e w3 ⟨hb3, ac, cc, ga, rfl, hc3, ha3, hga⟩
           have S3 := Lib.hid (S2.out.call hb3)
           have O3 := Lib.hid (O2.out.keep hb3 (Nat.le_refl _))
           have R3 := Lib.hid ((R2.out.below hb3).more hb3.size)
           have C3 := Lib.hid hc3
           have A3 := Lib.hid ha3
           clear hc3 ha3 hb3)
        | (go_at_call 15; (with_reducible refine (HRL0.out _ R3.out S3.out.l S3.out.b).mono ?_); rintro e w4 ⟨hb4, vw, uw, rfl, hw4, hu4⟩
           obtain ⟨aw, cw, rfl⟩ := own_form hw4
           obtain ⟨au, cu, rfl⟩ := own_form hu4
           have S4 := Lib.hid (S3.out.call hb4)
           have O4 := Lib.hid (O3.out.keep hb4 (Nat.le_refl _))
           have R4 := Lib.hid ((R3.out.below hb4).more hb4.size)
           have cv1 : (convert 35 9 (.slice ac CL.length cc)).run Tryz.prog w4 = .ok (.string SC) w4 := by rw [← HSC.out]; exact conv_back (Reads.of_own (C3.out.keep hb4 (Nat.le_refl _)))
           have cv2 : (convert 35 9 (.slice aw CL.length cw)).run Tryz.prog w4 = .ok (.string SC) w4 := by rw [← HSC.out]; exact conv_back (Reads.of_own hw4)
           have HRA := Reads.sub (A3.out.call hb4) 0 n 1 (by rw [HAT.out]; omega)
           simp only [Nat.zero_mul, List.drop_zero, Nat.mul_one, HTK.out] at HRA
           have HSI := Lib.hid (sInts (some ⟨ga, 0, none⟩) au n n n cu _ _ w4 HRA (Reads.of_own hu4) (by omega))
           rw [decide_eq_true rfl] at HSI
           clear hw4 hu4 hb4 HRA)
        | (go_at_call 10; (with_reducible refine HSI.out.mono ?_); rintro e w5 ⟨rfl, hb5⟩
           have S5' := Lib.hid (S4.out.call hb5)
           have O5 := Lib.hid (O4.out.keep hb5 (Nat.le_refl _))
           have R5 := Lib.hid ((R4.out.below hb5).more hb5.size)
           clear hb5)
        | (go_at_call 11; (with_reducible refine (HSL.out _ _ _ (Reads.of_own O5.out) R5.out).mono ?_); rintro e w6 ⟨rfl, hb6⟩
           have S6' := Lib.hid (S5'.out.call hb6)
           clear hb6)
        | (go_at_call 6; refine (HH.out _ S6'.out.l S6'.out.m S6'.out.b).mono ?_; rintro e w9 ⟨rfl, hb9⟩
           have K9 := Lib.hid (S6'.out.call hb9).k))
      go_ret
      exact ⟨rfl, K9.out⟩
    · have HPL0 := Lib.hid (fun A2 c2 w1 hr h1 h2 => (HPL.out A2 c2 w1 hr h1 h2).mono fun e w' h => h.not he)
      have HRL0 := Lib.hid (fun w1 hr h1 h2 => (HRL.out w1 hr h1 h2).mono fun e w' h =>
        show Below _ _ _ ∧ e = _ from ⟨h.1, by
          rcases h.2 with h | h
          · exact absurd h.1 he
          · exact h.2⟩)
      clear HPL HRL hL hm hB hr hok he
      generalize checkE ls = ee at *
      generalize hll : linesL ls = LL at *
      generalize ls.length = n at *
      clear hll
      go_enter Tryz.func4, Tryz.ntmps4
      go_wp2_with (first
        | (go_at_call 5; (with_reducible refine HG.out.mono ?_); rintro e w1 ⟨rfl, hb1⟩
           have S1 := Lib.hid (S0.out.call hb1)
           have R1 := Lib.hid ((HR.out.below hb1).more hb1.size)
           clear hb1)
        | (go_at_call 7; (with_reducible refine (HOW.out _ R1.out).mono ?_); intro e w2 hret; obtain ⟨ao, co, rfl, ho2, hb2, hle2⟩ := hret.cell
           have S2 := Lib.hid (S1.out.call hb2)
           have O2 := Lib.hid ho2
           have R2 := Lib.hid ((R1.out.below hb2).more hb2.size)
           clear ho2 hb2)
        | (go_at_call 14; (with_reducible refine (HPL0.out _ _ _ (Reads.of_own O2.out) S2.out.l S2.out.b).mono ?_); rintro e w3 ⟨hb3, rfl⟩
           have S3 := Lib.hid (S2.out.call hb3)
           have O3 := Lib.hid (O2.out.keep hb3 (Nat.le_refl _))
           have R3 := Lib.hid ((R2.out.below hb3).more hb3.size)
           clear hb3)
        | (go_at_call 15; (with_reducible refine (HRL0.out _ R3.out S3.out.l S3.out.b).mono ?_); rintro e w4 ⟨hb4, rfl⟩
           have S4 := Lib.hid (S3.out.call hb4)
           have O4 := Lib.hid (O3.out.keep hb4 (Nat.le_refl _))
           have R4 := Lib.hid ((R3.out.below hb4).more hb4.size)
           have cv1 : (convert 35 9 (.slice none 0 0)).run Tryz.prog w4 = .ok (.string ⟨#[]⟩) w4 := conv_back (B := 0) (l := []) Reads.none_
           have HSI := Lib.hid (sInts none none 0 0 0 0 [] [] w4 Reads.none_ Reads.none_ (by omega))
           rw [decide_eq_true rfl] at HSI
           clear hb4)
        | (go_at_call 10; (refine HSI.out.mono ?_); rintro e w5 ⟨rfl, hb5⟩
           have S5' := Lib.hid (S4.out.call hb5)
           have O5 := Lib.hid (O4.out.keep hb5 (Nat.le_refl _))
           have R5 := Lib.hid ((R4.out.below hb5).more hb5.size)
           clear hb5)
        | (go_at_call 11; (with_reducible refine (HSL.out _ _ _ (Reads.of_own O5.out) R5.out).mono ?_); rintro e w6 ⟨rfl, hb6⟩
           have S6' := Lib.hid (S5'.out.call hb6)
           clear hb6)
        | (go_at_call 6; refine (HH.out _ S6'.out.l S6'.out.m S6'.out.b).mono ?_; rintro e w9 ⟨rfl, hb9⟩
           have K9 := Lib.hid (S6'.out.call hb9).k))
      go_ret
      exact ⟨rfl, K9.out⟩
end
end Go.Proofs.YtjnngeakdclkbaaGreatDoor
