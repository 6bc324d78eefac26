/- Label of the reference, walked. -/
import Derived.Test.YtjnngeakdclkbaaDoorHK7
namespace Go.Proofs.YtjnngeakdclkbaaDoor
open Go.RowKit Go.Maps Go.WideMaps Go.Shelf
set_option linter.unusedSimpArgs false
set_option linter.unusedVariables false

theorem letter_cases (c : UInt8) : let n := (c.toNat : Int)
    (97 ≤ n ∧ n ≤ 122 ∧ letterB c = true) ∨ (97 ≤ n ∧ ¬ n ≤ 122 ∧ 65 ≤ n ∧ ¬ n ≤ 90 ∧ letterB c = false) ∨ (¬ 97 ≤ n ∧ 65 ≤ n ∧ n ≤ 90 ∧ letterB c = true) ∨
    (¬ 97 ≤ n ∧ 65 ≤ n ∧ ¬ n ≤ 90 ∧ letterB c = false) ∨ (¬ 97 ≤ n ∧ ¬ 65 ≤ n ∧ letterB c = false) := by
  have h : ∀ n : Nat, n < 256 → ((97 ≤ (n : Int) ∧ (n : Int) ≤ 122 ∧ letterB (UInt8.ofNat n) = true) ∨ (97 ≤ (n : Int) ∧ ¬ (n : Int) ≤ 122 ∧ 65 ≤ (n : Int) ∧ ¬ (n : Int) ≤ 90 ∧ letterB (UInt8.ofNat n) = false) ∨ (¬ 97 ≤ (n : Int) ∧ 65 ≤ (n : Int) ∧ (n : Int) ≤ 90 ∧ letterB (UInt8.ofNat n) = true) ∨
    (¬ 97 ≤ (n : Int) ∧ 65 ≤ (n : Int) ∧ ¬ (n : Int) ≤ 90 ∧ letterB (UInt8.ofNat n) = false) ∨ (¬ 97 ≤ (n : Int) ∧ ¬ 65 ≤ (n : Int) ∧ letterB (UInt8.ofNat n) = false)) := by decide +kernel
  have := h c.toNat c.toNat_lt_size
  rwa [UInt8.ofNat_toNat] at this
theorem other_cases (c : UInt8) : let n := (c.toNat : Int)
    (48 ≤ n ∧ n ≤ 57 ∧ otherB c = true) ∨ (48 ≤ n ∧ ¬ n ≤ 57 ∧ (n == 46) = false ∧ otherB c = false) ∨ (¬ 48 ≤ n ∧ (n == 46) = true ∧ otherB c = true) ∨ (¬ 48 ≤ n ∧ (n == 46) = false ∧ otherB c = false) := by
  have h : ∀ n : Nat, n < 256 → ((48 ≤ (n : Int) ∧ (n : Int) ≤ 57 ∧ otherB (UInt8.ofNat n) = true) ∨ (48 ≤ (n : Int) ∧ ¬ (n : Int) ≤ 57 ∧ ((n : Int) == 46) = false ∧ otherB (UInt8.ofNat n) = false) ∨ (¬ 48 ≤ (n : Int) ∧ ((n : Int) == 46) = true ∧ otherB (UInt8.ofNat n) = true) ∨
    (¬ 48 ≤ (n : Int) ∧ ((n : Int) == 46) = false ∧ otherB (UInt8.ofNat n) = false)) := by decide +kernel
  have := h c.toNat c.toNat_lt_size
  rwa [UInt8.ofNat_toNat] at this
theorem bytes_at {S : ByteArray} {k : Nat} (h : k < S.size) : ∃ d, S.data.toList[k]? = some d ∧ S[k] = d := by
  have hl : k < S.data.toList.length := by rw [str_size]; exact h
  refine ⟨S.data.toList[k], List.getElem?_eq_getElem hl, ?_⟩
  simp [ByteArray.getElem_eq_getElem_data]
set_option maxRecDepth 100000 in
set_option maxHeartbeats 4000000 in
theorem rLabel (S : ByteArray) (hs : S.size ≤ 281474976710656) (w : World) : Calls Tryd.prog 48 #[.string S] w (RetV (.bool (labelB S.data.toList)) w) := by
  have HS := Lib.hid hs
  go_enter Tryd.func48, Tryd.ntmps48
  go_wp2
  go_loop [3] (fun p => ∃ i : Nat, i ≤ S.size ∧ p = .int .i64 (i : Int) ∧ Hid (∀ j c, j < i → S.data.toList[j]? = some c → fitB j c = true)) (fun p => S.size - (intOf p).toNat)
  case atStart => exact ⟨0, by omega, rfl, Lib.hid (by intro j c h; omega)⟩
  case round =>
    obtain ⟨i, hi, rfl, Hi⟩ := hrel
    by_cases hlt : i < S.size
    · have hltI : (i : Int) < S.size := by omega
      have hi0 : (0 : Int) ≤ i := by omega
      obtain ⟨c, hcg, hget⟩ := bytes_at hlt
      have HG := Lib.hid hcg
      have w1 : IntKind.i64.wrap ((i : Int) + 1) = (i : Int) + 1 := IntWalk.i64_in _ (by have := HS.out; omega)
      clear hcg hs
      have on : fitB i c = true → ∀ j d, j < i + 1 → S.data.toList[j]? = some d → fitB j d = true := by
        intro hf j d hj hd
        by_cases h : j = i
        · subst h; rw [HG.out] at hd; injection hd with hd; subst hd; exact hf
        · exact Hi.out j d (by omega) hd
      have no : fitB i c = false → labelB S.data.toList = false := fun hf => label_no HG.out hf
      have ON := Lib.hid on
      have NO := Lib.hid no
      clear on no
      have hl := letter_cases c
      have ho := other_cases c
      simp only at hl ho
      have hiz : ((i : Int) == 0) = true ∨ ((i : Int) == 0) = false := by cases ((i : Int) == 0) <;> simp
      have hizn : ((i : Int) == 0) = (i == 0) := by rw [Bool.eq_iff_iff]; simp
      have HZ := Lib.hid hizn
      clear hizn
      have hfit : fitB i c = (letterB c || (!(i == 0) && otherB c)) := rfl
      generalize letterB c = lb at *
      generalize otherB c = ob at *
      have HF := Lib.hid hfit
      clear hfit
      obtain ⟨m, hm⟩ : ∃ m, (c.toNat : Int) = m := ⟨_, rfl⟩
      rw [hm] at hl ho
      generalize fitB i c = ft at *
      go_upto_region 4 with (fail)
      go_cut [4] (fun s4 wx => s4 = .bool lb ∧ wx = w)
      case first =>
        rcases hl with ⟨h1, h2, h3⟩ | ⟨h1, h2, h4, h5, h3⟩ | ⟨h1, h2, h4, h3⟩ | ⟨h1, h2, h4, h3⟩ | ⟨h1, h2, h3⟩
        all_goals
          go_wp2
          go_meet
          exact ⟨by rw [h3], rfl⟩
      case rest =>
        obtain ⟨rfl, rfl⟩ := hcut
        go_upto_region 5 with (fail)
        go_cut [5] (fun s5 wx => s5 = .bool ob ∧ wx = wc)
        case first =>
          rcases ho with ⟨o1, o2, o3⟩ | ⟨o1, o2, o4, o3⟩ | ⟨o1, o2, o3⟩ | ⟨o1, o2, o3⟩
          all_goals
            go_wp2
            go_meet
            exact ⟨by rw [o3], rfl⟩
        case rest =>
          obtain ⟨rfl, rfl⟩ := hcut
          clear hl ho
          cases lb
          · rcases hiz with hz | hz
            · have hno := Lib.hid (NO.out (by rw [HF.out, ← HZ.out, hz]; rfl))
              clear NO ON HF HZ
              go_wp2
              go_ret
              exact ⟨by rw [hno.out]; rfl, Below.refl _ _⟩
            · cases ob
              · have hno := Lib.hid (NO.out (by rw [HF.out, ← HZ.out, hz]; rfl))
                clear NO ON HF HZ
                go_wp2
                go_ret
                exact ⟨by rw [hno.out]; rfl, Below.refl _ _⟩
              · have hon := Lib.hid (ON.out (by rw [HF.out, ← HZ.out, hz]; rfl))
                clear NO ON HF HZ
                go_wp2
                go_round
                case rel => exact ⟨i + 1, by omega, by go_num, hon⟩
                case measure => simp [intOf]; omega
          · have hon := Lib.hid (ON.out (by rw [HF.out]; rfl))
            clear NO ON HF HZ
            go_wp2
            go_round
            case rel => exact ⟨i + 1, by omega, by go_num, hon⟩
            case measure => simp [intOf]; omega
    · have hltI : ¬ (i : Int) < S.size := by omega
      obtain rfl : i = S.size := by omega
      have hend := label_end (S := S) Hi.out
      have HE := Lib.hid hend
      clear hend Hi
      by_cases h0 : 1 ≤ (S.size : Int)
      · have hlab : labelB S.data.toList = decide ((S.size : Int) ≤ 32) := by
          rw [HE.out]
          have h1 : (S.size == 0) = false := by rw [beq_eq_false_iff_ne]; omega
          have h2 : decide ((S.size : Int) ≤ 32) = decide (S.size ≤ 32) := by rw [decide_eq_decide]; omega
          rw [h1, h2]; rfl
        have HL := Lib.hid hlab
        clear hlab HE
        go_wp2
        go_ret
        exact ⟨by rw [HL.out]; rfl, Below.refl _ _⟩
      · have hlab : labelB S.data.toList = false := by
          rw [HE.out]
          have h1 : (S.size == 0) = true := by rw [beq_iff_eq]; omega
          rw [h1]; rfl
        have HL := Lib.hid hlab
        clear hlab HE
        go_wp2
        go_ret
        exact ⟨by rw [HL.out]; rfl, Below.refl _ _⟩
theorem rLab (l : List UInt8) (h : l.length ≤ 281474976710656) (w : World) : Calls Tryd.prog 48 #[.string (strB l)] w (RetV (.bool (labelB l)) w) := by
  have := rLabel (strB l) (by rw [strB_size]; exact h) w
  rwa [show (strB l).data.toList = l by simp [strB]] at this
end Go.Proofs.YtjnngeakdclkbaaDoor
