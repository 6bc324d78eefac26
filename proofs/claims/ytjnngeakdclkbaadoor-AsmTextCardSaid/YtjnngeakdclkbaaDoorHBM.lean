/- AsmText, walked. -/
import Derived.Test.YtjnngeakdclkbaaDoorHBL
namespace Go.Proofs.YtjnngeakdclkbaaDoor
open Go.RowKit Go.Maps Go.WideMaps Go.Shelf
set_option linter.unusedSimpArgs false
set_option linter.unusedVariables false

theorem textT_len : ∀ ls : List LineL, ls.length ≤ (textT ls).length
  | [] => by simp [textT]
  | x :: r => by
    have := textT_len r
    have e : textT (x :: r) = (oneT x ++ [10]) ++ textT r := by simp [textT]
    rw [e, List.length_append, List.length_append, List.length_cons]
    simp; omega
set_option maxRecDepth 100000 in
set_option maxHeartbeats 4000000 in
theorem text_true (ls : List LineL) (hok : ∀ x ∈ ls, LOk x) (A : Option Addr) (c : Nat) (B : Nat) (w : World) (hr : Reads w w.heap.size 5 A ls.length (linesL ls)) (hL : Laid5 B w) (hm : MaxAt B w) (hB : B ≤ w.heap.size) (hgB : 1 < B) :
    Calls Tryd.prog 3 #[.slice A (ls.length : Nat) c] w (RetV (.bool true) w) := by
  have S0 := Lib.hid (S6.start hL hm hB)
  have HH := Lib.hid (fun w h1 h2 h3 => lHead B w h1 h2 h3 hgB)
  have HG := Lib.hid (lGreat A ls.length c w)
  by_cases hn : 120 < ls.length
  · rw [decide_eq_true hn] at HG
    clear hL hm hB hr hok
    generalize ls.length = n at *
    go_enter Tryd.func3, Tryd.ntmps3
    go_wp2_with (first
      | (go_at_call 9; (with_reducible refine HG.out.mono ?_); rintro e w1 ⟨rfl, hb1⟩
         have S1 := Lib.hid (S0.out.call hb1))
      | (go_at_call 10; refine (HH.out _ S1.out.l S1.out.m S1.out.b).mono ?_; rintro e w2 ⟨rfl, hb2⟩))
    go_ret
    exact ⟨rfl, (S1.out.call hb2).k⟩
  · rw [decide_eq_false hn] at HG
    have HP := Lib.hid (fun w1 hr h1 h2 => pTextL ls hok (by omega) A c B w1 hr h1 h2)
    have HQ := Lib.hid (fun w1 hr h1 h2 => rTextL ls hok (by omega) A c B w1 hr h1 h2)
    unfold RetTx at HP HQ
    have HR := Lib.hid hr
    by_cases ha : ls.all validB = true
    · rw [if_pos ha] at HP HQ
      have htl : (textT ls).length ≤ 300 * ls.length := by
        have := textK_len hok ls.length (by rw [List.take_length]; exact ha)
        unfold textK at this
        rwa [List.take_length] at this
      have HRD := Lib.hid (fun w1 h1 h2 h3 => pReadL (textT ls) (by omega) B w1 h1 h2 h3 hgB)
      unfold RetRd at HRD
      have hrd := readT_text ls ((textT ls).length + 1) [] 0 (fun x hx => ⟨List.all_eq_true.1 ha x hx, (hok x hx).arg⟩) (by have := textT_len ls; omega)
      rw [List.nil_append] at hrd
      rw [hrd] at HRD
      simp only at HRD
      have HSL := Lib.hid (fun A2 c2 w1 h1 h2 => sLines A2 A ls.length c2 ls.length c ls ls w1 h1 h2 (by omega))
      rw [decide_eq_true rfl] at HSL
      clear hL hm hB hr hok ha htl hrd
      generalize hll : linesL ls = LL at *
      generalize ls.length = n at *
      generalize hT : strB (textT ls) = T at *
      clear hll hT
      go_enter Tryd.func3, Tryd.ntmps3
      go_wp2_with (first
        | (go_at_call 9; (with_reducible refine HG.out.mono ?_); rintro e w1 ⟨rfl, hb1⟩
           have S1 := Lib.hid (S0.out.call hb1)
           have R1 := Lib.hid ((HR.out.below hb1).more hb1.size)
           clear hb1)
        | (go_at_call 11; (with_reducible refine (HP.out _ R1.out S1.out.l S1.out.b).mono ?_); rintro e w2 ⟨rfl, hb2⟩
           have S2 := Lib.hid (S1.out.call hb2)
           have R2 := Lib.hid ((R1.out.below hb2).more hb2.size)
           clear hb2)
        | (go_at_call 12; (with_reducible refine (HQ.out _ R2.out S2.out.l S2.out.b).mono ?_); rintro e w3 ⟨rfl, hb3⟩
           have S3 := Lib.hid (S2.out.call hb3)
           have R3 := Lib.hid ((R2.out.below hb3).more hb3.size)
           clear hb3)
        | (go_at_call 13; (with_reducible refine (HRD.out _ S3.out.l S3.out.m S3.out.b).mono ?_); rintro e w4 ⟨hb4, al, cl, rfl, hl4⟩
           have S4 := Lib.hid (S3.out.call hb4)
           have R4 := Lib.hid ((R3.out.below hb4).more hb4.size)
           have HS4 := Lib.hid (HSL.out al cl w4 (Reads.of_own hl4) R4.out)
           clear hb4 hl4)
        | (go_at_call 14; (with_reducible refine HS4.out.mono ?_); rintro e w5 ⟨rfl, hb5⟩
           have S5' := Lib.hid (S4.out.call hb5)
           clear hb5)
        | (go_at_call 10; refine (HH.out _ S5'.out.l S5'.out.m S5'.out.b).mono ?_; rintro e w9 ⟨rfl, hb9⟩
           have K9 := Lib.hid (S5'.out.call hb9).k))
      go_ret
      exact ⟨rfl, K9.out⟩
    · rw [if_neg ha] at HP HQ
      clear hL hm hB hr hok ha
      generalize hll : linesL ls = LL at *
      generalize ls.length = n at *
      generalize hT : strB [] = T at *
      clear hll hT
      go_enter Tryd.func3, Tryd.ntmps3
      go_wp2_with (first
        | (go_at_call 9; (with_reducible refine HG.out.mono ?_); rintro e w1 ⟨rfl, hb1⟩
           have S1 := Lib.hid (S0.out.call hb1)
           have R1 := Lib.hid ((HR.out.below hb1).more hb1.size)
           clear hb1)
        | (go_at_call 11; (with_reducible refine (HP.out _ R1.out S1.out.l S1.out.b).mono ?_); rintro e w2 ⟨rfl, hb2⟩
           have S2 := Lib.hid (S1.out.call hb2)
           have R2 := Lib.hid ((R1.out.below hb2).more hb2.size)
           clear hb2)
        | (go_at_call 12; (with_reducible refine (HQ.out _ R2.out S2.out.l S2.out.b).mono ?_); rintro e w3 ⟨rfl, hb3⟩
           have S3 := Lib.hid (S2.out.call hb3)
           clear hb3)
        | (go_at_call 10; refine (HH.out _ S3.out.l S3.out.m S3.out.b).mono ?_; rintro e w9 ⟨rfl, hb9⟩
           have K9 := Lib.hid (S3.out.call hb9).k))
      go_ret
      exact ⟨rfl, K9.out⟩
end Go.Proofs.YtjnngeakdclkbaaDoor
