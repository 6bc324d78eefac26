/- A valid line, walked in the program. -/
import Derived.Test.YtbefmlioampgcaaDoorHK5
import Derived.Test.YtbefmlioampgcaaDoorHK7
namespace Go.Proofs.YtbefmlioampgcaaDoor
open Go.RowKit Go.Shelf

/-- A line's cells. -/
def lineC (x : LineL) : Array Value := #[.string (strB x.label), .int .u8 x.fn, .int .i32 x.arg, .string (strB x.target), .string (strB x.frm)]
/-- A line that Go can hold. -/
structure LOk (x : LineL) : Prop where
  fn : x.fn ≤ 255
  arg : is32 x.arg
  label : x.label.length ≤ 281474976710656
  target : x.target.length ≤ 281474976710656
  frm : x.frm.length ≤ 281474976710656
theorem strB_empty (l : List UInt8) : (strB l).toList.isEmpty = l.isEmpty := by rw [ByteArray.toList_eq]; rfl
theorem iLab (l : List UInt8) (h : l.length ≤ 281474976710656) (w : World) : Calls Tryd.prog 107 #[.string (strB l)] w (RetV (.bool (labelB l)) w) := by
  have := iLabel (strB l) (by rw [strB_size]; exact h) w
  rwa [show (strB l).data.toList = l by simp [strB]] at this
set_option maxRecDepth 100000 in
set_option maxHeartbeats 4000000 in
theorem pValid (x : LineL) (hx : LOk x) (B : Nat) (w : World) (hL : Laid5 B w) (hB : B ≤ w.heap.size) : Calls Tryd.prog 96 #[.agg (lineC x)] w (RetV (.bool (validB x)) w) := by
  have S := S5.start hL hB
  have HL := Lib.hid (iLab x.label hx.label)
  have HT := Lib.hid (iLab x.target hx.target)
  have HF := Lib.hid (iLab x.frm hx.frm)
  have HM := Lib.hid (fun w h h2 => pMay (x.fn : Int) x.arg ⟨by omega, by have := hx.fn; omega⟩ B w h h2)
  have el := strB_empty x.label
  have et := strB_empty x.target
  have ef := strB_empty x.frm
  have hv : validB x = ((x.label.isEmpty || labelB x.label) && (if x.target.isEmpty = true then x.frm.isEmpty && (findI (x.fn : Int) x.arg).isSome
     else labelB x.target && (x.frm.isEmpty || labelB x.frm) && x.arg == 0 && decide (x.fn < 15) && !(x.fn == 2) && !(x.fn == 6))) := rfl
  have HV := Lib.hid hv
  clear hv
  clear hL hB hx
  unfold lineC
  generalize hlab : strB x.label = SL at *
  generalize htar : strB x.target = ST at *
  generalize hfrm : strB x.frm = SF at *
  generalize labelB x.label = bl at *
  generalize labelB x.target = bt at *
  generalize labelB x.frm = bf at *
  generalize (findI (x.fn : Int) x.arg).isSome = bm at *
  generalize x.label.isEmpty = zl at *
  generalize x.target.isEmpty = zt at *
  generalize x.frm.isEmpty = zf at *
  generalize hr : validB x = res at *
  clear hlab htar hfrm hr
  generalize x.fn = fn at *
  generalize x.arg = arg at *
  go_enter Tryd.func96, Tryd.ntmps96
  go_upto_region 1 with (fail)
  have S0 := S.alloc (.cells #[.string SL, .int .u8 fn, .int .i32 arg, .string ST, .string SF] 51)
  have b0 := Blk.new w 51 #[.string SL, .int .u8 fn, .int .i32 arg, .string ST, .string SF]
  obtain ⟨W0, hW0⟩ : ∃ W0, w.alloc (.cells #[.string SL, .int .u8 fn, .int .i32 arg, .string ST, .string SF] 51) = W0 := ⟨_, rfl⟩
  rw [hW0] at S0 b0 ⊢
  clear hW0
  go_cut [11] (fun s11 wx => s11 = .bool (!(zl || bl)) ∧ S5 B w wx ∧ Blk wx w.heap.size 51 #[.string SL, .int .u8 fn, .int .i32 arg, .string ST, .string SF])
  case first =>
    have c00 := b0.cell 0
    have c01 := b0.cell 1
    have c02 := b0.cell 2
    have c03 := b0.cell 3
    have c04 := b0.cell 4
    simp at c00 c01 c02 c03 c04
    cases zl
    · go_wp2_with (go_at_call 107; refine (HL.out _).mono ?_; rintro e w1 ⟨rfl, hb1⟩)
      go_meet
      exact ⟨rfl, S0.call hb1, b0.call hb1⟩
    · go_wp2
      go_meet
      exact ⟨rfl, S0, b0⟩
  case rest =>
    obtain ⟨rfl, S1, b1⟩ := hcut
    clear HL b0 S0 el S
    have c10 := b1.cell 0
    have c11 := b1.cell 1
    have c12 := b1.cell 2
    have c13 := b1.cell 3
    have c14 := b1.cell 4
    simp at c10 c11 c12 c13 c14
    generalize hg : (zl || bl) = g at *
    cases g
    · go_wp2
      refine bodyPost_ret (v := .bool false) (by simp [results, Tryd.results96, go_sem]) rfl ⟨by rw [HV.out]; simp, S1.k⟩
    have HM1 := Lib.hid (HM.out _ S1.l S1.b)
    clear HM
    cases zt
    · cases bt
      · go_wp2_with (go_at_call 107; refine (HT.out _).mono ?_; rintro e w1 ⟨rfl, hb1⟩)
        refine bodyPost_ret (v := .bool false) (by simp [results, Tryd.results96, go_sem]) rfl ⟨by rw [HV.out]; simp, (S1.call hb1).k⟩
      have call2 : ∀ (b1 : Bool), zf = false → True := fun _ _ => trivial
      clear call2
      have fin : ∀ (res' : Bool) (W : World), S5 B w W → res = res' → RetV (.bool res) w (.returned (.bool res')) W := fun r' W h e => ⟨by rw [e], h.k⟩
      have FIN := Lib.hid fin
      clear fin
      have hfn : (fn : Int) < 15 ∨ ¬ (fn : Int) < 15 := Classical.em _
      have HJ : ((zf || bf) = false ∧ res = false) ∨ ((zf || bf) = true ∧ ((¬ arg = 0 ∧ res = false) ∨ (arg = 0 ∧ ((¬ (fn : Int) < 15 ∧ res = false) ∨ ((fn : Int) < 15 ∧ (((fn : Int) = 2 ∧ res = false) ∨ (((fn : Int) != 2) = true ∧ res = !((fn : Int) == 6)))))))) := by
        have h := HV.out
        simp only [Bool.true_and, Bool.false_eq_true, if_false] at h
        have h6 : ((fn : Int) == 6) = (fn == 6) := by rw [Bool.eq_iff_iff]; simp; omega
        rw [h6]
        cases hz : (zf || bf)
        · exact .inl ⟨rfl, by rw [h, hz]; simp⟩
        · refine .inr ⟨rfl, ?_⟩
          rw [hz] at h
          by_cases ha : arg = 0
          · refine .inr ⟨ha, ?_⟩
            by_cases hf : (fn : Int) < 15
            · refine .inr ⟨hf, ?_⟩
              have hf' : fn < 15 := by omega
              by_cases h2 : fn = 2
              · exact .inl ⟨by omega, by rw [h]; simp [h2]⟩
              · exact .inr ⟨by simp; omega, by rw [h]; simp [ha, hf', h2]⟩
            · exact .inl ⟨hf, by rw [h]; have : ¬ fn < 15 := by omega
                                 simp [this]⟩
          · exact .inl ⟨ha, by rw [h]; simp [ha]⟩
      clear hfn HV HM1
      have HJ' := Lib.hid HJ
      clear HJ
      cases zf <;> cases bf
      · obtain ⟨-, hr⟩ : _ ∧ res = false := by rcases HJ'.out with h | ⟨h, _⟩; exact h; exact absurd h (by simp)
        clear HJ'
        have HR := Lib.hid hr
        clear hr
        go_wp2_with (first
          | (go_at_call 107; (with_reducible refine (HT.out wc).mono ?_); rintro e w1 ⟨rfl, hb1⟩
             have S2 := S1.call hb1
             have b2 := b1.call hb1
             have d10 := b2.cell 0
             have d11 := b2.cell 1
             have d12 := b2.cell 2
             have d13 := b2.cell 3
             have d14 := b2.cell 4
             simp at d10 d11 d12 d13 d14
             )
          | (go_at_call 107; (with_reducible refine (HF.out w1).mono ?_); rintro e w2 ⟨rfl, hb2⟩
             have S3 := S2.call hb2
             have b3 := b2.call hb2
             have e10 := b3.cell 0
             have e11 := b3.cell 1
             have e12 := b3.cell 2
             have e13 := b3.cell 3
             have e14 := b3.cell 4
             simp at e10 e11 e12 e13 e14
             ))
        refine bodyPost_ret (v := .bool false) (by simp [results, Tryd.results96, go_sem]) rfl (FIN.out _ _ S3 HR.out)
      · obtain h | ⟨-, h⟩ := HJ'.out
        · exact absurd h.1 (by simp)
        clear HJ'
        rcases h with ⟨h0, hr⟩ | ⟨h0, ⟨h15, hr⟩ | ⟨h15, ⟨h2, hr⟩ | ⟨h2, hr⟩⟩⟩
        · have h0 : (arg == 0) = false := by simpa using h0
          have HR := Lib.hid hr
          clear hr
          go_wp2_with (first
            | (go_at_call 107; (with_reducible refine (HT.out wc).mono ?_); rintro e w1 ⟨rfl, hb1⟩
               have S2 := S1.call hb1
               have b2 := b1.call hb1
               have d10 := b2.cell 0
               have d11 := b2.cell 1
               have d12 := b2.cell 2
               have d13 := b2.cell 3
               have d14 := b2.cell 4
               simp at d10 d11 d12 d13 d14
               )
            | (go_at_call 107; (with_reducible refine (HF.out w1).mono ?_); rintro e w2 ⟨rfl, hb2⟩
               have S3 := S2.call hb2
               have b3 := b2.call hb2
               have e10 := b3.cell 0
               have e11 := b3.cell 1
               have e12 := b3.cell 2
               have e13 := b3.cell 3
               have e14 := b3.cell 4
               simp at e10 e11 e12 e13 e14
               ))
          refine bodyPost_ret (v := .bool false) (by simp [results, Tryd.results96, go_sem]) rfl (FIN.out _ _ S3 HR.out)
        · subst h0
          have HR := Lib.hid hr
          clear hr
          go_wp2_with (first
            | (go_at_call 107; (with_reducible refine (HT.out wc).mono ?_); rintro e w1 ⟨rfl, hb1⟩
               have S2 := S1.call hb1
               have b2 := b1.call hb1
               have d10 := b2.cell 0
               have d11 := b2.cell 1
               have d12 := b2.cell 2
               have d13 := b2.cell 3
               have d14 := b2.cell 4
               simp at d10 d11 d12 d13 d14
               )
            | (go_at_call 107; (with_reducible refine (HF.out w1).mono ?_); rintro e w2 ⟨rfl, hb2⟩
               have S3 := S2.call hb2
               have b3 := b2.call hb2
               have e10 := b3.cell 0
               have e11 := b3.cell 1
               have e12 := b3.cell 2
               have e13 := b3.cell 3
               have e14 := b3.cell 4
               simp at e10 e11 e12 e13 e14
               ))
          refine bodyPost_ret (v := .bool false) (by simp [results, Tryd.results96, go_sem]) rfl (FIN.out _ _ S3 HR.out)
        · subst h0
          have h2 : ((fn : Int) != 2) = false := by rw [h2]; rfl
          have HR := Lib.hid hr
          clear hr
          go_wp2_with (first
            | (go_at_call 107; (with_reducible refine (HT.out wc).mono ?_); rintro e w1 ⟨rfl, hb1⟩
               have S2 := S1.call hb1
               have b2 := b1.call hb1
               have d10 := b2.cell 0
               have d11 := b2.cell 1
               have d12 := b2.cell 2
               have d13 := b2.cell 3
               have d14 := b2.cell 4
               simp at d10 d11 d12 d13 d14
               )
            | (go_at_call 107; (with_reducible refine (HF.out w1).mono ?_); rintro e w2 ⟨rfl, hb2⟩
               have S3 := S2.call hb2
               have b3 := b2.call hb2
               have e10 := b3.cell 0
               have e11 := b3.cell 1
               have e12 := b3.cell 2
               have e13 := b3.cell 3
               have e14 := b3.cell 4
               simp at e10 e11 e12 e13 e14
               ))
          refine bodyPost_ret (v := .bool false) (by simp [results, Tryd.results96, go_sem]) rfl (FIN.out _ _ S3 HR.out)
        · subst h0
          have HR := Lib.hid hr
          clear hr
          go_wp2_with (first
            | (go_at_call 107; (with_reducible refine (HT.out wc).mono ?_); rintro e w1 ⟨rfl, hb1⟩
               have S2 := S1.call hb1
               have b2 := b1.call hb1
               have d10 := b2.cell 0
               have d11 := b2.cell 1
               have d12 := b2.cell 2
               have d13 := b2.cell 3
               have d14 := b2.cell 4
               simp at d10 d11 d12 d13 d14
               )
            | (go_at_call 107; (with_reducible refine (HF.out w1).mono ?_); rintro e w2 ⟨rfl, hb2⟩
               have S3 := S2.call hb2
               have b3 := b2.call hb2
               have e10 := b3.cell 0
               have e11 := b3.cell 1
               have e12 := b3.cell 2
               have e13 := b3.cell 3
               have e14 := b3.cell 4
               simp at e10 e11 e12 e13 e14
               ))
          refine bodyPost_ret (v := .bool (((fn : Int) != 6))) (by simp [results, Tryd.results96, go_sem]) rfl (FIN.out _ _ S3 HR.out)
      · obtain h | ⟨-, h⟩ := HJ'.out
        · exact absurd h.1 (by simp)
        clear HJ'
        rcases h with ⟨h0, hr⟩ | ⟨h0, ⟨h15, hr⟩ | ⟨h15, ⟨h2, hr⟩ | ⟨h2, hr⟩⟩⟩
        · have h0 : (arg == 0) = false := by simpa using h0
          have HR := Lib.hid hr
          clear hr
          go_wp2_with (first
            | (go_at_call 107; (with_reducible refine (HT.out wc).mono ?_); rintro e w1 ⟨rfl, hb1⟩
               have S2 := S1.call hb1
               have b2 := b1.call hb1
               have d10 := b2.cell 0
               have d11 := b2.cell 1
               have d12 := b2.cell 2
               have d13 := b2.cell 3
               have d14 := b2.cell 4
               simp at d10 d11 d12 d13 d14
               ))
          refine bodyPost_ret (v := .bool false) (by simp [results, Tryd.results96, go_sem]) rfl (FIN.out _ _ S2 HR.out)
        · subst h0
          have HR := Lib.hid hr
          clear hr
          go_wp2_with (first
            | (go_at_call 107; (with_reducible refine (HT.out wc).mono ?_); rintro e w1 ⟨rfl, hb1⟩
               have S2 := S1.call hb1
               have b2 := b1.call hb1
               have d10 := b2.cell 0
               have d11 := b2.cell 1
               have d12 := b2.cell 2
               have d13 := b2.cell 3
               have d14 := b2.cell 4
               simp at d10 d11 d12 d13 d14
               ))
          refine bodyPost_ret (v := .bool false) (by simp [results, Tryd.results96, go_sem]) rfl (FIN.out _ _ S2 HR.out)
        · subst h0
          have h2 : ((fn : Int) != 2) = false := by rw [h2]; rfl
          have HR := Lib.hid hr
          clear hr
          go_wp2_with (first
            | (go_at_call 107; (with_reducible refine (HT.out wc).mono ?_); rintro e w1 ⟨rfl, hb1⟩
               have S2 := S1.call hb1
               have b2 := b1.call hb1
               have d10 := b2.cell 0
               have d11 := b2.cell 1
               have d12 := b2.cell 2
               have d13 := b2.cell 3
               have d14 := b2.cell 4
               simp at d10 d11 d12 d13 d14
               ))
          refine bodyPost_ret (v := .bool false) (by simp [results, Tryd.results96, go_sem]) rfl (FIN.out _ _ S2 HR.out)
        · subst h0
          have HR := Lib.hid hr
          clear hr
          go_wp2_with (first
            | (go_at_call 107; (with_reducible refine (HT.out wc).mono ?_); rintro e w1 ⟨rfl, hb1⟩
               have S2 := S1.call hb1
               have b2 := b1.call hb1
               have d10 := b2.cell 0
               have d11 := b2.cell 1
               have d12 := b2.cell 2
               have d13 := b2.cell 3
               have d14 := b2.cell 4
               simp at d10 d11 d12 d13 d14
               ))
          refine bodyPost_ret (v := .bool (((fn : Int) != 6))) (by simp [results, Tryd.results96, go_sem]) rfl (FIN.out _ _ S2 HR.out)
      · obtain h | ⟨-, h⟩ := HJ'.out
        · exact absurd h.1 (by simp)
        clear HJ'
        rcases h with ⟨h0, hr⟩ | ⟨h0, ⟨h15, hr⟩ | ⟨h15, ⟨h2, hr⟩ | ⟨h2, hr⟩⟩⟩
        · have h0 : (arg == 0) = false := by simpa using h0
          have HR := Lib.hid hr
          clear hr
          go_wp2_with (first
            | (go_at_call 107; (with_reducible refine (HT.out wc).mono ?_); rintro e w1 ⟨rfl, hb1⟩
               have S2 := S1.call hb1
               have b2 := b1.call hb1
               have d10 := b2.cell 0
               have d11 := b2.cell 1
               have d12 := b2.cell 2
               have d13 := b2.cell 3
               have d14 := b2.cell 4
               simp at d10 d11 d12 d13 d14
               ))
          refine bodyPost_ret (v := .bool false) (by simp [results, Tryd.results96, go_sem]) rfl (FIN.out _ _ S2 HR.out)
        · subst h0
          have HR := Lib.hid hr
          clear hr
          go_wp2_with (first
            | (go_at_call 107; (with_reducible refine (HT.out wc).mono ?_); rintro e w1 ⟨rfl, hb1⟩
               have S2 := S1.call hb1
               have b2 := b1.call hb1
               have d10 := b2.cell 0
               have d11 := b2.cell 1
               have d12 := b2.cell 2
               have d13 := b2.cell 3
               have d14 := b2.cell 4
               simp at d10 d11 d12 d13 d14
               ))
          refine bodyPost_ret (v := .bool false) (by simp [results, Tryd.results96, go_sem]) rfl (FIN.out _ _ S2 HR.out)
        · subst h0
          have h2 : ((fn : Int) != 2) = false := by rw [h2]; rfl
          have HR := Lib.hid hr
          clear hr
          go_wp2_with (first
            | (go_at_call 107; (with_reducible refine (HT.out wc).mono ?_); rintro e w1 ⟨rfl, hb1⟩
               have S2 := S1.call hb1
               have b2 := b1.call hb1
               have d10 := b2.cell 0
               have d11 := b2.cell 1
               have d12 := b2.cell 2
               have d13 := b2.cell 3
               have d14 := b2.cell 4
               simp at d10 d11 d12 d13 d14
               ))
          refine bodyPost_ret (v := .bool false) (by simp [results, Tryd.results96, go_sem]) rfl (FIN.out _ _ S2 HR.out)
        · subst h0
          have HR := Lib.hid hr
          clear hr
          go_wp2_with (first
            | (go_at_call 107; (with_reducible refine (HT.out wc).mono ?_); rintro e w1 ⟨rfl, hb1⟩
               have S2 := S1.call hb1
               have b2 := b1.call hb1
               have d10 := b2.cell 0
               have d11 := b2.cell 1
               have d12 := b2.cell 2
               have d13 := b2.cell 3
               have d14 := b2.cell 4
               simp at d10 d11 d12 d13 d14
               ))
          refine bodyPost_ret (v := .bool (((fn : Int) != 6))) (by simp [results, Tryd.results96, go_sem]) rfl (FIN.out _ _ S2 HR.out)
    · cases zf
      · go_wp2
        refine bodyPost_ret (v := .bool false) (by simp [results, Tryd.results96, go_sem]) rfl ⟨by rw [HV.out]; simp, S1.k⟩
      · go_wp2_with (go_at_call 108; refine HM1.out.mono ?_; rintro e w1 ⟨rfl, hb1⟩)
        refine bodyPost_ret (v := .bool bm) (by simp [results, Tryd.results96, go_sem]) rfl ⟨by rw [HV.out]; simp, (S1.call hb1).k⟩
end Go.Proofs.YtbefmlioampgcaaDoor
