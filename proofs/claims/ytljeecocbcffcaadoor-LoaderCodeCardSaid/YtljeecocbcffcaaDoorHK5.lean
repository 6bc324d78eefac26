/- Texts that belong together, joined: what each one holds is told ahead of it. -/
import Derived.Test.YtljeecocbcffcaaDoorHK3
import Derived.Test.YtljeecocbcffcaaDoorHK4
import Derived.Test.YtljeecocbcffcaaDoorHK1
import Derived.Maps.OwnSet
import Derived.Laws.BitsLemmas
set_option linter.unusedVariables false
set_option linter.unusedSimpArgs false
/- A valid line, walked in the program. -/
namespace Go.Proofs.YtljeecocbcffcaaDoor
open Go.RowKit Go.Shelf

/-- A line's cells. -/
def lineC (x : LineL) : Array Value := #[.string (strB x.label), .int .u8 x.fn, .int .i32 x.arg, .string (strB x.target), .string (strB x.frm)]
/-- A line that Go can hold. -/
structure LOk (x : LineL) : Prop where
  fn : x.fn ≤ 255
  arg : is32 x.arg
  label : x.label.length ≤ 281474976710656
  target : x.target.length ≤ 281474976710656
  frm : x.frm.length ≤ 281474976710656
theorem strB_empty (l : List UInt8) : (strB l).toList.isEmpty = l.isEmpty := by rw [ByteArray.toList_eq]; rfl
theorem iLab (l : List UInt8) (h : l.length ≤ 281474976710656) (w : World) : Calls Tryd.prog 69 #[.string (strB l)] w (RetV (.bool (labelB l)) w) := by
  have := iLabel (strB l) (by rw [strB_size]; exact h) w
  rwa [show (strB l).data.toList = l by simp [strB]] at this
set_option maxRecDepth 100000 in
set_option maxHeartbeats 4000000 in
theorem pValid (x : LineL) (hx : LOk x) (B : Nat) (w : World) (hL : Laid5 B w) (hB : B ≤ w.heap.size) : Calls Tryd.prog 53 #[.agg (lineC x)] w (RetV (.bool (validB x)) w) := by
  have S := S5.start hL hB
  have HL := Lib.hid (iLab x.label hx.label)
  have HT := Lib.hid (iLab x.target hx.target)
  have HF := Lib.hid (iLab x.frm hx.frm)
  have HM := Lib.hid (fun w h h2 => pMay (x.fn : Int) x.arg ⟨by omega, by have := hx.fn; omega⟩ B w h h2)
  have el := strB_empty x.label
  have et := strB_empty x.target
  have ef := strB_empty x.frm
  have hv : validB x = ((x.label.isEmpty || labelB x.label) && (if x.target.isEmpty = true then x.frm.isEmpty && (findI (x.fn : Int) x.arg).isSome
     else labelB x.target && (x.frm.isEmpty || labelB x.frm) && x.arg == 0 && decide (x.fn < 15) && !(x.fn == 2) && !(x.fn == 6))) := rfl
  have HV := Lib.hid hv
  clear hv
  clear hL hB hx
  unfold lineC
  generalize hlab : strB x.label = SL at *
  generalize htar : strB x.target = ST at *
  generalize hfrm : strB x.frm = SF at *
  generalize labelB x.label = bl at *
  generalize labelB x.target = bt at *
  generalize labelB x.frm = bf at *
  generalize (findI (x.fn : Int) x.arg).isSome = bm at *
  generalize x.label.isEmpty = zl at *
  generalize x.target.isEmpty = zt at *
  generalize x.frm.isEmpty = zf at *
  generalize hr : validB x = res at *
  clear hlab htar hfrm hr
  generalize x.fn = fn at *
  generalize x.arg = arg at *
  go_enter Tryd.func53, Tryd.ntmps53
  go_upto_region 1 with (fail)
  have S0 := S.alloc (.cells #[.string SL, .int .u8 fn, .int .i32 arg, .string ST, .string SF] 27)
  have b0 := Blk.new w 27 #[.string SL, .int .u8 fn, .int .i32 arg, .string ST, .string SF]
  obtain ⟨W0, hW0⟩ : ∃ W0, w.alloc (.cells #[.string SL, .int .u8 fn, .int .i32 arg, .string ST, .string SF] 27) = W0 := ⟨_, rfl⟩
  rw [hW0] at S0 b0 ⊢
  clear hW0
  go_cut [11] (fun s11 wx => s11 = .bool (!(zl || bl)) ∧ S5 B w wx ∧ Blk wx w.heap.size 27 #[.string SL, .int .u8 fn, .int .i32 arg, .string ST, .string SF])
  case first =>
    have c00 := b0.cell 0
    have c01 := b0.cell 1
    have c02 := b0.cell 2
    have c03 := b0.cell 3
    have c04 := b0.cell 4
    simp at c00 c01 c02 c03 c04
    cases zl
    · go_wp2_with (go_at_call 69; refine (HL.out _).mono ?_; rintro e w1 ⟨rfl, hb1⟩)
      go_meet
      exact ⟨rfl, S0.call hb1, b0.call hb1⟩
    · go_wp2
      go_meet
      exact ⟨rfl, S0, b0⟩
  case rest =>
    obtain ⟨rfl, S1, b1⟩ := hcut
    clear HL b0 S0 el S
    have c10 := b1.cell 0
    have c11 := b1.cell 1
    have c12 := b1.cell 2
    have c13 := b1.cell 3
    have c14 := b1.cell 4
    simp at c10 c11 c12 c13 c14
    generalize hg : (zl || bl) = g at *
    cases g
    · go_wp2
      refine bodyPost_ret (v := .bool false) (by simp [results, Tryd.results53, go_sem]) rfl ⟨by rw [HV.out]; simp, S1.k⟩
    have HM1 := Lib.hid (HM.out _ S1.l S1.b)
    clear HM
    cases zt
    · cases bt
      · go_wp2_with (go_at_call 69; refine (HT.out _).mono ?_; rintro e w1 ⟨rfl, hb1⟩)
        refine bodyPost_ret (v := .bool false) (by simp [results, Tryd.results53, go_sem]) rfl ⟨by rw [HV.out]; simp, (S1.call hb1).k⟩
      have call2 : ∀ (b1 : Bool), zf = false → True := fun _ _ => trivial
      clear call2
      have fin : ∀ (res' : Bool) (W : World), S5 B w W → res = res' → RetV (.bool res) w (.returned (.bool res')) W := fun r' W h e => ⟨by rw [e], h.k⟩
      have FIN := Lib.hid fin
      clear fin
      have hfn : (fn : Int) < 15 ∨ ¬ (fn : Int) < 15 := Classical.em _
      have HJ : ((zf || bf) = false ∧ res = false) ∨ ((zf || bf) = true ∧ ((¬ arg = 0 ∧ res = false) ∨ (arg = 0 ∧ ((¬ (fn : Int) < 15 ∧ res = false) ∨ ((fn : Int) < 15 ∧ (((fn : Int) = 2 ∧ res = false) ∨ (((fn : Int) != 2) = true ∧ res = !((fn : Int) == 6)))))))) := by
        have h := HV.out
        simp only [Bool.true_and, Bool.false_eq_true, if_false] at h
        have h6 : ((fn : Int) == 6) = (fn == 6) := by rw [Bool.eq_iff_iff]; simp; omega
        rw [h6]
        cases hz : (zf || bf)
        · exact .inl ⟨rfl, by rw [h, hz]; simp⟩
        · refine .inr ⟨rfl, ?_⟩
          rw [hz] at h
          by_cases ha : arg = 0
          · refine .inr ⟨ha, ?_⟩
            by_cases hf : (fn : Int) < 15
            · refine .inr ⟨hf, ?_⟩
              have hf' : fn < 15 := by omega
              by_cases h2 : fn = 2
              · exact .inl ⟨by omega, by rw [h]; simp [h2]⟩
              · exact .inr ⟨by simp; omega, by rw [h]; simp [ha, hf', h2]⟩
            · exact .inl ⟨hf, by rw [h]; have : ¬ fn < 15 := by omega
                                 simp [this]⟩
          · exact .inl ⟨ha, by rw [h]; simp [ha]⟩
      clear hfn HV HM1
      have HJ' := Lib.hid HJ
      clear HJ
      cases zf <;> cases bf
      · obtain ⟨-, hr⟩ : _ ∧ res = false := by rcases HJ'.out with h | ⟨h, _⟩; exact h; exact absurd h (by simp)
        clear HJ'
        have HR := Lib.hid hr
        clear hr
        go_wp2_with (first
          | (go_at_call 69; (with_reducible refine (HT.out wc).mono ?_); rintro e w1 ⟨rfl, hb1⟩
             have S2 := S1.call hb1
             have b2 := b1.call hb1
             have d10 := b2.cell 0
             have d11 := b2.cell 1
             have d12 := b2.cell 2
             have d13 := b2.cell 3
             have d14 := b2.cell 4
             simp at d10 d11 d12 d13 d14
             )
          | (go_at_call 69; (with_reducible refine (HF.out w1).mono ?_); rintro e w2 ⟨rfl, hb2⟩
             have S3 := S2.call hb2
             have b3 := b2.call hb2
             have e10 := b3.cell 0
             have e11 := b3.cell 1
             have e12 := b3.cell 2
             have e13 := b3.cell 3
             have e14 := b3.cell 4
             simp at e10 e11 e12 e13 e14
             ))
        refine bodyPost_ret (v := .bool false) (by simp [results, Tryd.results53, go_sem]) rfl (FIN.out _ _ S3 HR.out)
      · obtain h | ⟨-, h⟩ := HJ'.out
        · exact absurd h.1 (by simp)
        clear HJ'
        rcases h with ⟨h0, hr⟩ | ⟨h0, ⟨h15, hr⟩ | ⟨h15, ⟨h2, hr⟩ | ⟨h2, hr⟩⟩⟩
        · have h0 : (arg == 0) = false := by simpa using h0
          have HR := Lib.hid hr
          clear hr
          go_wp2_with (first
            | (go_at_call 69; (with_reducible refine (HT.out wc).mono ?_); rintro e w1 ⟨rfl, hb1⟩
               have S2 := S1.call hb1
               have b2 := b1.call hb1
               have d10 := b2.cell 0
               have d11 := b2.cell 1
               have d12 := b2.cell 2
               have d13 := b2.cell 3
               have d14 := b2.cell 4
               simp at d10 d11 d12 d13 d14
               )
            | (go_at_call 69; (with_reducible refine (HF.out w1).mono ?_); rintro e w2 ⟨rfl, hb2⟩
               have S3 := S2.call hb2
               have b3 := b2.call hb2
               have e10 := b3.cell 0
               have e11 := b3.cell 1
               have e12 := b3.cell 2
               have e13 := b3.cell 3
               have e14 := b3.cell 4
               simp at e10 e11 e12 e13 e14
               ))
          refine bodyPost_ret (v := .bool false) (by simp [results, Tryd.results53, go_sem]) rfl (FIN.out _ _ S3 HR.out)
        · subst h0
          have HR := Lib.hid hr
          clear hr
          go_wp2_with (first
            | (go_at_call 69; (with_reducible refine (HT.out wc).mono ?_); rintro e w1 ⟨rfl, hb1⟩
               have S2 := S1.call hb1
               have b2 := b1.call hb1
               have d10 := b2.cell 0
               have d11 := b2.cell 1
               have d12 := b2.cell 2
               have d13 := b2.cell 3
               have d14 := b2.cell 4
               simp at d10 d11 d12 d13 d14
               )
            | (go_at_call 69; (with_reducible refine (HF.out w1).mono ?_); rintro e w2 ⟨rfl, hb2⟩
               have S3 := S2.call hb2
               have b3 := b2.call hb2
               have e10 := b3.cell 0
               have e11 := b3.cell 1
               have e12 := b3.cell 2
               have e13 := b3.cell 3
               have e14 := b3.cell 4
               simp at e10 e11 e12 e13 e14
               ))
          refine bodyPost_ret (v := .bool false) (by simp [results, Tryd.results53, go_sem]) rfl (FIN.out _ _ S3 HR.out)
        · subst h0
          have h2 : ((fn : Int) != 2) = false := by rw [h2]; rfl
          have HR := Lib.hid hr
          clear hr
          go_wp2_with (first
            | (go_at_call 69; (with_reducible refine (HT.out wc).mono ?_); rintro e w1 ⟨rfl, hb1⟩
               have S2 := S1.call hb1
               have b2 := b1.call hb1
               have d10 := b2.cell 0
               have d11 := b2.cell 1
               have d12 := b2.cell 2
               have d13 := b2.cell 3
               have d14 := b2.cell 4
               simp at d10 d11 d12 d13 d14
               )
            | (go_at_call 69; (with_reducible refine (HF.out w1).mono ?_); rintro e w2 ⟨rfl, hb2⟩
               have S3 := S2.call hb2
               have b3 := b2.call hb2
               have e10 := b3.cell 0
               have e11 := b3.cell 1
               have e12 := b3.cell 2
               have e13 := b3.cell 3
               have e14 := b3.cell 4
               simp at e10 e11 e12 e13 e14
               ))
          refine bodyPost_ret (v := .bool false) (by simp [results, Tryd.results53, go_sem]) rfl (FIN.out _ _ S3 HR.out)
        · subst h0
          have HR := Lib.hid hr
          clear hr
          go_wp2_with (first
            | (go_at_call 69; (with_reducible refine (HT.out wc).mono ?_); rintro e w1 ⟨rfl, hb1⟩
               have S2 := S1.call hb1
               have b2 := b1.call hb1
               have d10 := b2.cell 0
               have d11 := b2.cell 1
               have d12 := b2.cell 2
               have d13 := b2.cell 3
               have d14 := b2.cell 4
               simp at d10 d11 d12 d13 d14
               )
            | (go_at_call 69; (with_reducible refine (HF.out w1).mono ?_); rintro e w2 ⟨rfl, hb2⟩
               have S3 := S2.call hb2
               have b3 := b2.call hb2
               have e10 := b3.cell 0
               have e11 := b3.cell 1
               have e12 := b3.cell 2
               have e13 := b3.cell 3
               have e14 := b3.cell 4
               simp at e10 e11 e12 e13 e14
               ))
          refine bodyPost_ret (v := .bool (((fn : Int) != 6))) (by simp [results, Tryd.results53, go_sem]) rfl (FIN.out _ _ S3 HR.out)
      · obtain h | ⟨-, h⟩ := HJ'.out
        · exact absurd h.1 (by simp)
        clear HJ'
        rcases h with ⟨h0, hr⟩ | ⟨h0, ⟨h15, hr⟩ | ⟨h15, ⟨h2, hr⟩ | ⟨h2, hr⟩⟩⟩
        · have h0 : (arg == 0) = false := by simpa using h0
          have HR := Lib.hid hr
          clear hr
          go_wp2_with (first
            | (go_at_call 69; (with_reducible refine (HT.out wc).mono ?_); rintro e w1 ⟨rfl, hb1⟩
               have S2 := S1.call hb1
               have b2 := b1.call hb1
               have d10 := b2.cell 0
               have d11 := b2.cell 1
               have d12 := b2.cell 2
               have d13 := b2.cell 3
               have d14 := b2.cell 4
               simp at d10 d11 d12 d13 d14
               ))
          refine bodyPost_ret (v := .bool false) (by simp [results, Tryd.results53, go_sem]) rfl (FIN.out _ _ S2 HR.out)
        · subst h0
          have HR := Lib.hid hr
          clear hr
          go_wp2_with (first
            | (go_at_call 69; (with_reducible refine (HT.out wc).mono ?_); rintro e w1 ⟨rfl, hb1⟩
               have S2 := S1.call hb1
               have b2 := b1.call hb1
               have d10 := b2.cell 0
               have d11 := b2.cell 1
               have d12 := b2.cell 2
               have d13 := b2.cell 3
               have d14 := b2.cell 4
               simp at d10 d11 d12 d13 d14
               ))
          refine bodyPost_ret (v := .bool false) (by simp [results, Tryd.results53, go_sem]) rfl (FIN.out _ _ S2 HR.out)
        · subst h0
          have h2 : ((fn : Int) != 2) = false := by rw [h2]; rfl
          have HR := Lib.hid hr
          clear hr
          go_wp2_with (first
            | (go_at_call 69; (with_reducible refine (HT.out wc).mono ?_); rintro e w1 ⟨rfl, hb1⟩
               have S2 := S1.call hb1
               have b2 := b1.call hb1
               have d10 := b2.cell 0
               have d11 := b2.cell 1
               have d12 := b2.cell 2
               have d13 := b2.cell 3
               have d14 := b2.cell 4
               simp at d10 d11 d12 d13 d14
               ))
          refine bodyPost_ret (v := .bool false) (by simp [results, Tryd.results53, go_sem]) rfl (FIN.out _ _ S2 HR.out)
        · subst h0
          have HR := Lib.hid hr
          clear hr
          go_wp2_with (first
            | (go_at_call 69; (with_reducible refine (HT.out wc).mono ?_); rintro e w1 ⟨rfl, hb1⟩
               have S2 := S1.call hb1
               have b2 := b1.call hb1
               have d10 := b2.cell 0
               have d11 := b2.cell 1
               have d12 := b2.cell 2
               have d13 := b2.cell 3
               have d14 := b2.cell 4
               simp at d10 d11 d12 d13 d14
               ))
          refine bodyPost_ret (v := .bool (((fn : Int) != 6))) (by simp [results, Tryd.results53, go_sem]) rfl (FIN.out _ _ S2 HR.out)
      · obtain h | ⟨-, h⟩ := HJ'.out
        · exact absurd h.1 (by simp)
        clear HJ'
        rcases h with ⟨h0, hr⟩ | ⟨h0, ⟨h15, hr⟩ | ⟨h15, ⟨h2, hr⟩ | ⟨h2, hr⟩⟩⟩
        · have h0 : (arg == 0) = false := by simpa using h0
          have HR := Lib.hid hr
          clear hr
          go_wp2_with (first
            | (go_at_call 69; (with_reducible refine (HT.out wc).mono ?_); rintro e w1 ⟨rfl, hb1⟩
               have S2 := S1.call hb1
               have b2 := b1.call hb1
               have d10 := b2.cell 0
               have d11 := b2.cell 1
               have d12 := b2.cell 2
               have d13 := b2.cell 3
               have d14 := b2.cell 4
               simp at d10 d11 d12 d13 d14
               ))
          refine bodyPost_ret (v := .bool false) (by simp [results, Tryd.results53, go_sem]) rfl (FIN.out _ _ S2 HR.out)
        · subst h0
          have HR := Lib.hid hr
          clear hr
          go_wp2_with (first
            | (go_at_call 69; (with_reducible refine (HT.out wc).mono ?_); rintro e w1 ⟨rfl, hb1⟩
               have S2 := S1.call hb1
               have b2 := b1.call hb1
               have d10 := b2.cell 0
               have d11 := b2.cell 1
               have d12 := b2.cell 2
               have d13 := b2.cell 3
               have d14 := b2.cell 4
               simp at d10 d11 d12 d13 d14
               ))
          refine bodyPost_ret (v := .bool false) (by simp [results, Tryd.results53, go_sem]) rfl (FIN.out _ _ S2 HR.out)
        · subst h0
          have h2 : ((fn : Int) != 2) = false := by rw [h2]; rfl
          have HR := Lib.hid hr
          clear hr
          go_wp2_with (first
            | (go_at_call 69; (with_reducible refine (HT.out wc).mono ?_); rintro e w1 ⟨rfl, hb1⟩
               have S2 := S1.call hb1
               have b2 := b1.call hb1
               have d10 := b2.cell 0
               have d11 := b2.cell 1
               have d12 := b2.cell 2
               have d13 := b2.cell 3
               have d14 := b2.cell 4
               simp at d10 d11 d12 d13 d14
               ))
          refine bodyPost_ret (v := .bool false) (by simp [results, Tryd.results53, go_sem]) rfl (FIN.out _ _ S2 HR.out)
        · subst h0
          have HR := Lib.hid hr
          clear hr
          go_wp2_with (first
            | (go_at_call 69; (with_reducible refine (HT.out wc).mono ?_); rintro e w1 ⟨rfl, hb1⟩
               have S2 := S1.call hb1
               have b2 := b1.call hb1
               have d10 := b2.cell 0
               have d11 := b2.cell 1
               have d12 := b2.cell 2
               have d13 := b2.cell 3
               have d14 := b2.cell 4
               simp at d10 d11 d12 d13 d14
               ))
          refine bodyPost_ret (v := .bool (((fn : Int) != 6))) (by simp [results, Tryd.results53, go_sem]) rfl (FIN.out _ _ S2 HR.out)
    · cases zf
      · go_wp2
        refine bodyPost_ret (v := .bool false) (by simp [results, Tryd.results53, go_sem]) rfl ⟨by rw [HV.out]; simp, S1.k⟩
      · go_wp2_with (go_at_call 70; refine HM1.out.mono ?_; rintro e w1 ⟨rfl, hb1⟩)
        refine bodyPost_ret (v := .bool bm) (by simp [results, Tryd.results53, go_sem]) rfl ⟨by rw [HV.out]; simp, (S1.call hb1).k⟩
end Go.Proofs.YtljeecocbcffcaaDoor

/- The map from labels to lines, in plain words. -/
namespace Go.Proofs.YtljeecocbcffcaaDoor
open Go.Maps

theorem snocInd {α : Type} {P : List α → Prop} (h0 : P []) (h : ∀ l x, P l → P (l ++ [x])) (l : List α) : P l := by
  rw [← List.reverse_reverse l]
  induction l.reverse with
  | nil => exact h0
  | cons x r ih => rw [List.reverse_cons]; exact h _ _ ih
theorem key_str (n : List UInt8) : WideAt.IsKeyLit (.string n) := trivial
/-- Where each label stands. -/
def mapL (l : List LineL) : DataW Unit := l.zipIdx.foldl (fun D p => if p.1.label.isEmpty then D else D.put (.string p.1.label) (.lit (.int .i64 p.2))) (.map [])
theorem mapL_snoc (l : List LineL) (x : LineL) : mapL (l ++ [x]) = if x.label.isEmpty then mapL l else (mapL l).put (.string x.label) (.lit (.int .i64 l.length)) := by
  simp [mapL, List.zipIdx_append, List.foldl_append]
theorem atL_snoc (l : List LineL) (x : LineL) (n : List UInt8) : atL (l ++ [x]) n = (atL l n).or (if x.label == n then some l.length else none) := by
  unfold atL
  rw [List.findIdx?_append]
  cases h : (x.label == n) <;> simp [List.findIdx?_cons, h]
theorem mapL_isMap (l : List LineL) : IsMap (mapL l) := by
  refine snocInd (P := fun l => IsMap (mapL l)) isMap_empty (fun l x ih => ?_) l
  rw [mapL_snoc]; split
  · exact ih
  · exact ih.put _ _
theorem mapL_has (n : List UInt8) (l : List LineL) : has (mapL l) (.string n) = ((atL l n).isSome && !n.isEmpty) := by
  refine snocInd (P := fun l => has (mapL l) (.string n) = ((atL l n).isSome && !n.isEmpty)) rfl (fun l x ih => ?_) l
  rw [mapL_snoc, atL_snoc]
  by_cases hx : x.label.isEmpty = true
  · rw [if_pos hx, ih]
    by_cases hn : x.label = n
    · subst hn; simp [hx]
    · simp [hn]
  · rw [if_neg hx]
    by_cases hn : x.label = n
    · subst hn
      rw [has_put_same (mapL_isMap l) (key_str x.label)]
      simp [hx]
    · rw [has_put_other (by intro e; injection e with e; exact hn e.symm), ih]
      simp [hn]
/-- No label stands twice. -/
def Dist (l : List LineL) : Prop := ∀ (j : Nat) (x : LineL), l[j]? = some x → x.label ≠ [] → atL l x.label = some j
theorem Dist.nil : Dist [] := fun j x h => by simp at h
theorem Dist.init {l : List LineL} {x : LineL} (h : Dist (l ++ [x])) : Dist l := by
  intro j y hj hy
  have hl : j < l.length := by obtain ⟨h, _⟩ := List.getElem?_eq_some_iff.1 hj; exact h
  have h1 := h j y (by rw [List.getElem?_append_left hl]; exact hj) hy
  rw [atL_snoc] at h1
  cases ha : atL l y.label with
  | some k => rw [ha] at h1; simpa using h1
  | none =>
    rw [ha] at h1
    simp at h1
    omega
theorem Dist.snoc {l : List LineL} {x : LineL} (h : Dist l) (hx : x.label ≠ [] → atL l x.label = none) : Dist (l ++ [x]) := by
  intro j y hj hy
  rcases Nat.lt_or_ge j l.length with hl | hl
  · rw [List.getElem?_append_left hl] at hj
    rw [atL_snoc, h j y hj hy]; rfl
  · have hj2 : j = l.length := by
      obtain ⟨h, _⟩ := List.getElem?_eq_some_iff.1 hj
      simp at h; omega
    subst hj2
    simp at hj
    subst hj
    rw [atL_snoc, hx hy]; simp
theorem mapL_at {l : List LineL} (hd : Dist l) {n : List UInt8} (hn : n ≠ []) : (mapL l).atKey (.string n) (.lit (.int .i64 0)) = .lit (.int .i64 ((atL l n).getD 0 : Nat)) := by
  revert hd
  refine snocInd (P := fun l => Dist l → (mapL l).atKey (.string n) (.lit (.int .i64 0)) = .lit (.int .i64 ((atL l n).getD 0 : Nat))) (fun _ => rfl) (fun l x ih hd => ?_) l
  rw [mapL_snoc, atL_snoc]
  have i1 := ih hd.init
  by_cases hx : x.label.isEmpty = true
  · rw [if_pos hx, i1]
    have : ¬ x.label = n := by intro e; subst e; exact hn (List.isEmpty_iff.1 hx)
    simp [this]
  · rw [if_neg hx]
    by_cases he : x.label = n
    · subst he
      rw [atKey_put_same (mapL_isMap l) (key_str x.label)]
      have h1 := hd l.length x (by simp) hn
      rw [atL_snoc] at h1
      rw [h1]; rfl
    · rw [atKey_put_other (by intro e; injection e with e; exact he e.symm), i1]
      simp [he]
theorem mapL_at_nil (l : List LineL) : (mapL l).atKey (.string []) (.lit (.int .i64 0)) = .lit (.int .i64 0) := by
  exact atKey_of_not_has (by rw [mapL_has]; simp) _
end Go.Proofs.YtljeecocbcffcaaDoor

/- The error of lines, as three loops find it. -/
namespace Go.Proofs.YtljeecocbcffcaaDoor

theorem check_two {ls : List LineL} {k : Nat} {x : LineL} (h : ls[k]? = some x) (hv : validB x = false) : checkE ls = 2 := by
  have : ls.all validB = false := by
    rw [List.all_eq_false]
    exact ⟨x, List.mem_of_getElem? h, by simp [hv]⟩
  unfold checkE
  rw [this]; rfl
theorem check_sixty {ls : List LineL} {k : Nat} {x : LineL} (ha : ls.all validB = true) (h : ls[k]? = some x) (hv : okL ls k x = false) : checkE ls = 60 := by
  have : (ls.zipIdx.all fun p => okL ls p.2 p.1) = false := by
    rw [List.all_eq_false]
    refine ⟨(x, k), ?_, by simp [hv]⟩
    exact List.mem_of_getElem? (i := k) (by simp [List.getElem?_zipIdx, h])
  unfold checkE
  rw [ha, this]; rfl
theorem check_zero {ls : List LineL} (ha : ls.all validB = true) (h : ∀ (k : Nat) (x : LineL), ls[k]? = some x → okL ls k x = true) : checkE ls = 0 := by
  have : (ls.zipIdx.all fun p => okL ls p.2 p.1) = true := by
    rw [List.all_eq_true]
    rintro ⟨x, k⟩ hm
    obtain ⟨i, hi⟩ := List.getElem?_of_mem hm
    rw [List.getElem?_zipIdx] at hi
    cases hg : ls[i]? with
    | none => simp [hg] at hi
    | some y =>
      simp [hg] at hi
      obtain ⟨rfl, rfl⟩ := hi
      exact h _ _ hg
  unfold checkE
  rw [ha, this]; rfl
/-- A label that stands already: the lines are in error. -/
theorem check_again {ls : List LineL} {k : Nat} {x : LineL} (ha : ls.all validB = true) (h : ls[k]? = some x) (hx : x.label ≠ []) (hs : (atL (ls.take k) x.label).isSome = true) : checkE ls = 60 := by
  refine check_sixty ha h ?_
  obtain ⟨j, hj⟩ := Option.isSome_iff_exists.1 hs
  have hl := atL_lt hj
  have e : atL ls x.label = some j := by
    conv => lhs; rw [← List.take_append_drop k ls]
    unfold atL at hj ⊢
    rw [List.findIdx?_append, hj]; rfl
  have hk : k < ls.length := by obtain ⟨h, _⟩ := List.getElem?_eq_some_iff.1 h; exact h
  have hne : j ≠ k := by simp at hl; omega
  have hx2 : x.label.isEmpty = false := by simpa using hx
  simp [okL, hx2, e, hne]
end Go.Proofs.YtljeecocbcffcaaDoor

/- A slice of lines. -/
namespace Go.Proofs.YtljeecocbcffcaaDoor
open Go.RowKit
set_option linter.unusedVariables false
set_option linter.unusedSimpArgs false

/-- The cells of lines. -/
def linesL (ls : List LineL) : List Value := ls.flatMap fun x => (lineC x).toList
theorem linesL_len (ls : List LineL) : (linesL ls).length = 5 * ls.length := by
  induction ls with
  | nil => rfl
  | cons x l ih => rw [linesL, List.flatMap_cons, List.length_append, ← linesL, ih]; simp [lineC]; omega
theorem linesL_get {ls : List LineL} {k : Nat} {x : LineL} (h : ls[k]? = some x) {j : Nat} (hj : j < 5) : (linesL ls)[5 * k + j]? = (lineC x).toList[j]? := by
  induction ls generalizing k with
  | nil => simp at h
  | cons y l ih =>
    rw [linesL, List.flatMap_cons, ← linesL]
    have hy : (lineC y).toList.length = 5 := by simp [lineC]
    cases k with
    | zero =>
      simp at h; subst h
      rw [List.getElem?_append_left (by rw [hy]; omega)]; simp
    | succ k =>
      rw [List.getElem?_append_right (by rw [hy]; omega), hy]
      have e : 5 * (k + 1) + j - 5 = 5 * k + j := by omega
      rw [e]
      exact ih (by simpa using h)
theorem linesL_at {ls : List LineL} {k : Nat} {x : LineL} (h : ls[k]? = some x) :
    (linesL ls)[5 * k]? = some (.string (strB x.label)) ∧ (linesL ls)[5 * k + 1]? = some (.int .u8 x.fn) ∧ (linesL ls)[5 * k + 2]? = some (.int .i32 x.arg) ∧ (linesL ls)[5 * k + 3]? = some (.string (strB x.target)) ∧ (linesL ls)[5 * k + 4]? = some (.string (strB x.frm)) :=
  ⟨linesL_get h (j := 0) (by omega), linesL_get h (j := 1) (by omega), linesL_get h (j := 2) (by omega), linesL_get h (j := 3) (by omega), linesL_get h (j := 4) (by omega)⟩
end Go.Proofs.YtljeecocbcffcaaDoor

/- check, walked: the loop over the lines' forms. -/
namespace Go.Proofs.YtljeecocbcffcaaDoor
open Go.RowKit Go.Maps Go.WideMaps

theorem lines_at {w : World} {B n : Nat} {A : Option Addr} {ls : List LineL} (h : Reads w B 5 A n (linesL ls)) {k : Nat} (hk : k < n) :
    ∃ b off x, A = some ⟨b, off, none⟩ ∧ b < B ∧ ls[k]? = some x ∧ w.cell? ⟨b, off + k * 5, none⟩ = some (.string (strB x.label)) ∧ w.cell? ⟨b, off + k * 5 + 1, none⟩ = some (.int .u8 x.fn) ∧ w.cell? ⟨b, off + k * 5 + 2, none⟩ = some (.int .i32 x.arg) ∧
      w.cell? ⟨b, off + k * 5 + 3, none⟩ = some (.string (strB x.target)) ∧ w.cell? ⟨b, off + k * 5 + 4, none⟩ = some (.string (strB x.frm)) := by
  have hl := h.1
  rw [linesL_len] at hl
  obtain ⟨b, off, rfl, hb, hc⟩ := h.addr (by omega) (by omega)
  obtain ⟨x, hx⟩ : ∃ x, ls[k]? = some x := ⟨_, List.getElem?_eq_getElem (by omega)⟩
  obtain ⟨h0, h1, h2, h3, h4⟩ := linesL_at hx
  rw [Nat.mul_comm] at h0 h1 h2 h3 h4
  have c0 := hc _ _ h0
  have c1 := hc _ _ h1
  have c2 := hc _ _ h2
  have c3 := hc _ _ h3
  have c4 := hc _ _ h4
  simp only [← Nat.add_assoc] at c1 c2 c3 c4
  exact ⟨b, off, x, rfl, hb, hx, c0, c1, c2, c3, c4⟩
theorem lines_len {w : World} {B n : Nat} {A : Option Addr} {ls : List LineL} (h : Reads w B 5 A n (linesL ls)) : ls.length = n := by
  have hl := h.1
  rw [linesL_len] at hl
  omega
theorem all_take_succ {ls : List LineL} {k : Nat} {x : LineL} (hx : ls[k]? = some x) (h : (ls.take k).all validB = true) (hv : validB x = true) : (ls.take (k + 1)).all validB = true := by
  rw [List.take_add_one, hx, List.all_append, h]
  simp [hv]
theorem take_succ_of {ls : List LineL} {k : Nat} {x : LineL} (hx : ls[k]? = some x) : ls.take (k + 1) = ls.take k ++ [x] := by
  rw [List.take_add_one, hx]; rfl
abbrev OwnI (w : World) (b n : Nat) (D : DataW Unit) : Prop := w.ownsMap Tryd.prog 9 (plainElem (H := Unit) Tryd.prog 3) b n D
theorem lawStr : Keyed Tryd.prog 9 := string_keyed Tryd.underlying9
set_option maxRecDepth 100000 in
theorem str_key {l : List UInt8} (h : l.length ≤ 281474976710656) : keyOf Tryd.prog 9 (.string (strB l)) = some (.string l) := by
  have h1 := keyOf_string_mk (P := Tryd.prog) Tryd.underlying9 (s := strB l) (by rw [strB_size]; unfold maxLen; omega)
  have e : (strB l).data.toList = l := by simp [strB]
  rwa [e] at h1
theorem zero_int (w : World) : (zeroValue 3).run Tryd.prog w = .ok (.int .i64 0) w := by kernel_rfl
set_option maxRecDepth 100000 in
theorem own_ok {w : World} {b n : Nat} {D : DataW Unit} (h : OwnI w b n D) {l : List UInt8} (hl : l.length ≤ 281474976710656) :
    ∃ c, (Instr.lookup 72 (.map (some b)) (.string (strB l)) true).run Tryd.prog w = .ok (.tuple #[.int .i64 c, .bool (Maps.has D (.string l))]) w := by
  obtain ⟨v, ps, hrun, hv⟩ := h.look_ok lawStr Tryd.underlying72 (zero_int w) (plainElem_int Tryd.underlying3 (by decide)) (str_key hl)
  obtain ⟨c, rfl, -⟩ := plainElem_int_inv Tryd.underlying3 hv
  exact ⟨c, hrun⟩
set_option maxRecDepth 100000 in
theorem own_at {w : World} {b n : Nat} {ls : List LineL} (h : OwnI w b n (mapL ls)) (hd : Dist ls) {l : List UInt8} (hl : l.length ≤ 281474976710656) (hne : l ≠ []) :
    (Instr.lookup 72 (.map (some b)) (.string (strB l)) false).run Tryd.prog w = .ok (.int .i64 ((atL ls l).getD 0 : Nat)) w := by
  obtain ⟨c, hrun, hat, -⟩ := h.lookup_int lawStr Tryd.underlying72 Tryd.underlying3 (zero_int w) (str_key hl)
  rw [mapL_at hd hne] at hat
  injection hat with hat
  injection hat with _ hat
  rw [← hat] at hrun
  exact hrun
theorem S5.own {B : Nat} {w0 w w1 : World} {b : Nat} (h : S5 B w0 w) (hg : w.grownBy w1 (some b)) (hB : B ≤ w0.heap.size) (hb : w0.heap.size ≤ b) : S5 B w0 w1 := by
  have k1 : Below w0.heap.size w0 w1 := h.k.grown hg h.k.size (fun k e => by injection e; omega)
  have k2 : Below B w w1 := (Below.refl B w).grown hg h.b (fun k e => by injection e; omega)
  exact ⟨h.l.on k2, Nat.le_trans h.b hg.size, k1⟩
theorem own_call {w w1 : World} {b n : Nat} {D : DataW Unit} (h : OwnI w b n D) (hb : Below w.heap.size w w1) : OwnI w1 b n D := h.kept (row := none) ⟨hb.os, hb.tape, hb.output, hb.size, fun k hk _ => hb.block k hk⟩ (by simp)

/-- What check leaves. -/
def RetC (ls : List LineL) (w : World) (e : Ending) (w' : World) : Prop :=
  Below w.heap.size w w' ∧ ((checkE ls = 0 ∧ ∃ b n, e = .returned (.tuple #[.map (some b), .int .i64 0]) ∧ OwnI w' b n (mapL ls) ∧ w.heap.size ≤ b ∧ Dist ls) ∨
    (checkE ls ≠ 0 ∧ e = .returned (.tuple #[.map none, .int .i64 (checkE ls)])))
set_option maxRecDepth 100000 in
set_option maxHeartbeats 4000000 in
theorem pCheck (ls : List LineL) (hok : ∀ x ∈ ls, LOk x) (A : Option Addr) (n c : Nat) (hn : n ≤ 1000000) (B : Nat) (w : World) (hr : Reads w w.heap.size 5 A n (linesL ls)) (hL : Laid5 B w) (hB : B ≤ w.heap.size) :
    Calls Tryd.prog 59 #[.slice A n c] w (RetC ls w) := by
  have S := Lib.hid (S5.start hL hB)
  have HR := Lib.hid hr
  have HK := Lib.hid hok
  have HB := Lib.hid hB
  have HN := Lib.hid (lines_len hr)
  have hmm := @run_makeMap Tryd.prog
  clear hr hok hL hB
  go_enter Tryd.func59, Tryd.ntmps59
  go_wp2
  go_loopw [19] (fun i wr => ∃ k : Nat, k ≤ n ∧ i = .int .i64 k ∧ Hid (S5 B w wr) ∧ Hid ((ls.take k).all validB = true)) (fun i _ => n - (intOf i).toNat)
  case atStart => exact ⟨0, by omega, rfl, S, Lib.hid (by simp)⟩
  case round =>
    clear S
    obtain ⟨k, hk, rfl, S, HV⟩ := hrel
    by_cases hlt : k < n
    · have hltI : (k : Int) < n := by omega
      obtain ⟨b, off, x, rfl, hb, hx, c0, c1, c2, c3, c4⟩ := lines_at (HR.out.below S.out.k) hlt
      have hbs : b < wr.heap.size := by have := S.out.k.size; omega
      have b0 := Blk.new wr 27 (lineC x)
      have HS1 := Lib.hid (S.out.alloc (.cells (lineC x) 27))
      have HC := Lib.hid (pValid x (HK.out x (List.mem_of_getElem? hx)) B _ HS1.out.l HS1.out.b)
      simp only [lineC] at b0 HS1 HC
      have HX := Lib.hid hx
      clear hx
      generalize hv : validB x = bv at *
      have HVX := Lib.hid hv
      clear hv
      cases bv
      · go_wp2_with (go_at_call 53; refine HC.out.mono ?_; rintro e w1 ⟨rfl, hb1⟩)
        have e2 := check_two HX.out HVX.out
        go_ret2
        exact ⟨(HS1.out.call hb1).k, .inr ⟨by rw [e2]; decide, by rw [e2]; rfl⟩⟩
      · go_wp2_with (go_at_call 53; refine HC.out.mono ?_; rintro e w1 ⟨rfl, hb1⟩)
        go_roundw
        case rel => exact ⟨k + 1, by omega, by go_num, Lib.hid (HS1.out.call hb1), Lib.hid (all_take_succ HX.out HV.out HVX.out)⟩
        case measure => simp [intOf]; omega
    · have hltI : ¬ (k : Int) < n := by omega
      obtain rfl : n = k := by omega
      have HA : Hid (ls.all validB = true) := Lib.hid (by have := HV.out; rwa [List.take_of_length_le (by rw [HN.out]; omega)] at this)
      clear HV
      obtain ⟨m, hm⟩ : ∃ m, wr.heap.size = m := ⟨_, rfl⟩
      have HM := Lib.hid (show w.heap.size ≤ m by rw [← hm]; exact S.out.k.size)
      have hO : OwnI (wr.alloc (.map #[] 0)) wr.heap.size 0 (mapL []) := World.ownsMap_made _ _ _ _
      have HO := Lib.hid hO
      have HS := Lib.hid (S.out.alloc (.map #[] 0))
      clear S hO
      rw [hm] at HO
      go_wp2
      go_loopw [30] (fun i wr => ∃ k q : Nat, k ≤ n ∧ i = .int .i64 k ∧ q ≤ k ∧ Hid (S5 B w wr) ∧ Hid (OwnI wr m q (mapL (ls.take k))) ∧ Hid (Dist (ls.take k))) (fun i _ => n - (intOf i).toNat)
      case atStart => exact ⟨0, 0, by omega, rfl, by omega, HS, Lib.hid (by simpa using HO.out), Lib.hid (by simpa using Dist.nil)⟩
      case round =>
        clear HS HO hm
        obtain ⟨k, q, hk, rfl, hq, S, HO, HD⟩ := hrel
        by_cases hlt : k < n
        · have hltI : (k : Int) < n := by omega
          obtain ⟨b, off, x, rfl, hb, hx, c0, c1, c2, c3, c4⟩ := lines_at (HR.out.below S.out.k) hlt
          have hbs : b < wr.heap.size := by have := S.out.k.size; omega
          have HS1 := Lib.hid (S.out.alloc (.cells (lineC x) 27))
          have HO1 := Lib.hid (HO.out.alloc (.cells (lineC x) 27))
          have HXO := Lib.hid (HK.out x (List.mem_of_getElem? hx))
          obtain ⟨cv, hrun⟩ := own_ok HO1.out HXO.out.label
          have hhas := mapL_has x.label (ls.take k)
          have hkey := str_key HXO.out.label
          have hpi : plainElem (H := Unit) Tryd.prog 3 (.int .i64 (k : Int)) = some (.lit (.int .i64 k), []) := plainElem_int Tryd.underlying3 (WalkArith.wf_i64 (by omega))
          simp only [lineC] at HS1 HO1 hrun
          have HX := Lib.hid hx
          have HKY := Lib.hid hkey
          have HPI := Lib.hid hpi
          clear hx hkey hpi S HO
          have el := strB_empty x.label
          by_cases hle : x.label = []
          · have hle2 : x.label.isEmpty = true := by rw [hle]; rfl
            rw [hle2] at el
            have hmap : mapL (ls.take (k + 1)) = mapL (ls.take k) := by rw [take_succ_of HX.out, mapL_snoc, if_pos hle2]
            have HMAP := Lib.hid hmap
            have HD2 := Lib.hid (show Dist (ls.take (k + 1)) by rw [take_succ_of HX.out]; exact HD.out.snoc (fun h => absurd hle h))
            clear hmap hle hle2 hhas
            generalize Maps.has (mapL (ls.take k)) (Lit.string x.label) = hs at *
            generalize strB x.label = SL at *
            go_wp2
            go_roundw
            case rel => exact ⟨k + 1, q, by omega, by go_num, by omega, HS1, Lib.hid (by rw [HMAP.out]; exact HO1.out), HD2⟩
            case measure => simp [intOf]; omega
          · have hle2 : x.label.isEmpty = false := by simpa using hle
            rw [hle2] at el
            rw [hle2] at hhas
            simp only [Bool.not_false, Bool.and_true] at hhas
            cases hat : (atL (ls.take k) x.label).isSome with
            | true =>
              have e60 := check_again HA.out HX.out hle hat
              have E60 := Lib.hid e60
              rw [hat] at hhas
              rw [hhas] at hrun
              clear e60 hat hle hle2 hhas
              generalize strB x.label = SL at *
              go_wp2
              go_ret2
              exact ⟨HS1.out.k, .inr ⟨by rw [E60.out]; decide, by rw [E60.out]; rfl⟩⟩
            | false =>
              rw [hat] at hhas
              rw [hhas] at hrun
              have hln : (ls.take k).length = k := by rw [List.length_take, HN.out]; omega
              have hmap : mapL (ls.take (k + 1)) = (mapL (ls.take k)).put (.string x.label) (.lit (.int .i64 k)) := by rw [take_succ_of HX.out, mapL_snoc, if_neg (by rw [hle2]; decide), hln]
              have HMAP := Lib.hid hmap
              have HD2 := Lib.hid (show Dist (ls.take (k + 1)) by rw [take_succ_of HX.out]; exact HD.out.snoc (fun _ => by simpa using hat))
              clear hmap hle hle2 hhas hat hln
              generalize strB x.label = SL at *
              go_wp2_with (at_mapUpdate; refine wpList_mapUpdate_own _ rfl _ _ _ 72 rfl 9 3 lawStr Tryd.underlying72 _ m q _ rfl HO1.out (by unfold maxLen; omega) _ _ _ rfl rfl HKY.out _ [] HPI.out ?_; intro w3 hown hgr; have HS4 := Lib.hid (HS1.out.own hgr HB.out HM.out); have HO4 := Lib.hid hown; clear hown hgr)
              go_roundw
              case rel => exact ⟨k + 1, q + 1, by omega, by go_num, by omega, HS4, Lib.hid (by rw [HMAP.out]; exact HO4.out), HD2⟩
              case measure => simp [intOf]; omega
        · have hltI : ¬ (k : Int) < n := by omega
          obtain rfl : n = k := by omega
          rw [List.take_of_length_le (by rw [HN.out]; omega)] at HO HD
          go_wp2
          go_loopw [53] (fun i wr => ∃ j : Nat, j ≤ n ∧ i = .int .i64 j ∧ Hid (S5 B w wr) ∧ Hid (OwnI wr m q (mapL ls)) ∧ Hid (∀ i x, i < j → ls[i]? = some x → okL ls i x = true)) (fun i _ => n - (intOf i).toNat)
          case atStart => exact ⟨0, by omega, rfl, S, HO, Lib.hid (by intro i x h; omega)⟩
          case round =>
            clear S HO
            obtain ⟨j, hj, rfl, S, HO, HP⟩ := hrel
            by_cases hjt : j < n
            · have hjtI : (j : Int) < n := by omega
              obtain ⟨b, off, x, rfl, hb, hx, c0, c1, c2, c3, c4⟩ := lines_at (HR.out.below S.out.k) hjt
              have hbs : b < wr.heap.size := by have := S.out.k.size; omega
              have HS1 := Lib.hid (S.out.alloc (.cells (lineC x) 27))
              have HO1 := Lib.hid (HO.out.alloc (.cells (lineC x) 27))
              have HXO := Lib.hid (HK.out x (List.mem_of_getElem? hx))
              obtain ⟨cv, hrun⟩ := own_ok HO1.out HXO.out.target
              obtain ⟨cv2, hrun2⟩ := own_ok HO1.out HXO.out.frm
              have h1 := mapL_has x.target ls
              have h2 := mapL_has x.frm ls
              have et := strB_empty x.target
              have ef := strB_empty x.frm
              have hokl : okL ls j x = ((x.target.isEmpty || Maps.has (mapL ls) (.string x.target)) && (x.frm.isEmpty || Maps.has (mapL ls) (.string x.frm))) := by
                have hlab : (x.label.isEmpty || atL ls x.label == some j) = true := by
                  by_cases hz : x.label = []
                  · simp [hz]
                  · simp [HD.out j x hx hz]
                rw [okL, hlab, h1, h2, Bool.true_and]
                cases x.target.isEmpty <;> cases x.frm.isEmpty <;> simp
              have HOK := Lib.hid hokl
              have HX := Lib.hid hx
              simp only [lineC] at HS1 HO1 hrun hrun2
              clear hx hokl h1 h2 S HO
              generalize Maps.has (mapL ls) (Lit.string x.target) = ht at *
              generalize Maps.has (mapL ls) (Lit.string x.frm) = hf at *
              generalize x.target.isEmpty = zt at *
              generalize x.frm.isEmpty = zf at *
              generalize strB x.target = ST at *
              generalize strB x.frm = SF at *
              have no : okL ls j x = false → checkE ls = 60 := fun h => check_sixty HA.out HX.out h
              have yes : okL ls j x = true → ∀ i y, i < j + 1 → ls[i]? = some y → okL ls i y = true := by
                intro h i y hi hy
                by_cases e : i = j
                · subst e; rw [HX.out] at hy; injection hy with hy; subst hy; exact h
                · exact HP.out i y (by omega) hy
              have NO := Lib.hid no
              have YES := Lib.hid yes
              clear no yes
              cases zt <;> cases zf <;> cases ht <;> cases hf
              all_goals
                go_wp2
                first
                  | (go_roundw
                     case rel => exact ⟨j + 1, by omega, by go_num, HS1, HO1, Lib.hid (YES.out (by rw [HOK.out]; rfl))⟩
                     case measure => simp [intOf]; omega)
                  | (go_ret2
                     have e60 := NO.out (by rw [HOK.out]; rfl)
                     exact ⟨HS1.out.k, .inr ⟨by rw [e60]; decide, by rw [e60]; rfl⟩⟩)
            · have hjtI : ¬ (j : Int) < n := by omega
              obtain rfl : n = j := by omega
              have e0 := check_zero HA.out (fun i x hx => HP.out i x (by have := (List.getElem?_eq_some_iff.1 hx).1; rw [HN.out] at this; exact this) hx)
              go_wp2
              go_ret2
              exact ⟨S.out.k, .inl ⟨e0, m, q, rfl, HO.out, HM.out, HD.out⟩⟩
end Go.Proofs.YtljeecocbcffcaaDoor

/- The rounds that find the addresses, in plain words. -/
namespace Go.Proofs.YtljeecocbcffcaaDoor

/-- A round's lengths: no less than before, and no less than needed. -/
def upL (os : List Opd) (l : List Nat) : List Nat := List.zipWith max l (needL os l)
/-- .. of which the first i are found. -/
def mixL (u l : List Nat) (i : Nat) : List Nat := u.take i ++ l.drop i
def adrs (l : List Nat) (n : Nat) : List Nat := (List.range (n + 1)).map (adr l)
theorem adrs_len (l : List Nat) (n : Nat) : (adrs l n).length = n + 1 := by simp [adrs]
theorem adrs_get (l : List Nat) {n k : Nat} (h : k ≤ n) : (adrs l n)[k]? = some (adr l k) := by
  simp [adrs, show k < n + 1 by omega]
theorem upL_len {os : List Opd} {l : List Nat} (h : l.length = os.length) : (upL os l).length = os.length := by simp [upL, needL_len, h]
theorem upL_get {os : List Opd} {l : List Nat} {i : Nat} {o : Opd} (h : l.length = os.length) (ho : os[i]? = some o) : (upL os l)[i]? = some (max (l.getD i 0) (lenV (valO l o))) := by
  have hi : i < os.length := (List.getElem?_eq_some_iff.1 ho).1
  have h1 : l[i]? = some (l.getD i 0) := by
    rw [List.getD_eq_getElem?_getD, List.getElem?_eq_getElem (by omega)]; rfl
  have h2 : (needL os l)[i]? = some (lenV (valO l o)) := by simp [needL, ho]
  rw [upL, List.getElem?_zipWith, h1, h2]
theorem mixL_len {u l : List Nat} (h : u.length = l.length) (i : Nat) : (mixL u l i).length = l.length := by
  simp [mixL]; omega
theorem mixL_zero (u l : List Nat) : mixL u l 0 = l := by simp [mixL]
theorem mixL_end {u l : List Nat} (h : u.length = l.length) : mixL u l l.length = u := by
  simp [mixL, ← h]
theorem mixL_at {u l : List Nat} (h : u.length = l.length) {i : Nat} (hi : i < l.length) : (mixL u l i)[i]? = l[i]? := by
  rw [mixL, List.getElem?_append_right (by simp; omega)]
  simp
  congr 1; omega
theorem mixL_set {u l : List Nat} (h : u.length = l.length) {i x : Nat} (hx : u[i]? = some x) : (mixL u l i).set i x = mixL u l (i + 1) := by
  have hi : i < u.length := (List.getElem?_eq_some_iff.1 hx).1
  apply List.ext_getElem?
  intro j
  rw [List.getElem?_set]
  have hl : (u.take i).length = i := by simp; omega
  have hl2 : (u.take (i + 1)).length = i + 1 := by simp; omega
  by_cases hij : i = j
  · subst hij
    rw [if_pos rfl, if_pos (by rw [mixL_len h]; omega), mixL, List.getElem?_append_left (by omega), List.getElem?_take, if_pos (by omega), hx]
  · rw [if_neg hij]
    unfold mixL
    rcases Nat.lt_or_ge j i with hj | hj
    · rw [List.getElem?_append_left (by omega), List.getElem?_append_left (by omega), List.getElem?_take, List.getElem?_take, if_pos hj, if_pos (by omega)]
    · rw [List.getElem?_append_right (by omega), List.getElem?_append_right (by omega), List.getElem?_drop, List.getElem?_drop, hl, hl2]
      congr 1; omega
theorem mixL_keep {u l : List Nat} (h : u.length = l.length) {i x : Nat} (hx : u[i]? = some x) (hl : l[i]? = some x) : mixL u l (i + 1) = mixL u l i := by
  rw [← mixL_set h hx]
  apply List.ext_getElem?
  intro j
  rw [List.getElem?_set]
  have hi : i < u.length := (List.getElem?_eq_some_iff.1 hx).1
  by_cases hij : i = j
  · subst hij
    rw [if_pos rfl, if_pos (by rw [mixL_len h]; omega), mixL_at h (by omega), hl]
  · rw [if_neg hij]
/-- No length has grown so far. -/
def stillB (u l : List Nat) (i : Nat) : Bool := decide (u.take i = l.take i)
theorem stillB_zero (u l : List Nat) : stillB u l 0 = true := by simp [stillB]
theorem stillB_keep {u l : List Nat} {i x : Nat} (hx : u[i]? = some x) (hl : l[i]? = some x) : stillB u l (i + 1) = stillB u l i := by
  unfold stillB
  rw [List.take_add_one, List.take_add_one, hx, hl]
  simp
theorem stillB_grown {u l : List Nat} {i x y : Nat} (h : u.length = l.length) (hx : u[i]? = some x) (hl : l[i]? = some y) (hne : x ≠ y) : stillB u l (i + 1) = false := by
  unfold stillB
  rw [decide_eq_false_iff_not]
  intro e
  have : (u.take (i + 1))[i]? = (l.take (i + 1))[i]? := by rw [e]
  rw [List.getElem?_take, List.getElem?_take, if_pos (by omega), if_pos (by omega), hx, hl] at this
  injection this with this
  exact hne this
theorem stillB_end {u l : List Nat} (h : u.length = l.length) : stillB u l l.length = decide (u = l) := by
  unfold stillB
  rw [List.take_of_length_le (by omega), List.take_of_length_le (Nat.le_refl _)]
theorem upL_ge {os : List Opd} {l : List Nat} (h : l.length = os.length) : LE l (upL os l) := by
  refine ⟨by rw [upL_len h, h], fun i => ?_⟩
  rcases Nat.lt_or_ge i os.length with hi | hi
  · have := upL_get h (List.getElem?_eq_getElem hi)
    rw [List.getD_eq_getElem?_getD (l := upL os l), this]
    simp only [Option.getD_some]; omega
  · rw [List.getD_eq_getElem?_getD, List.getElem?_eq_none (by omega)]; simp
theorem upL_need {os : List Opd} {l : List Nat} (h : l.length = os.length) : LE (needL os l) (upL os l) := by
  refine ⟨by rw [upL_len h, needL_len], fun i => ?_⟩
  rcases Nat.lt_or_ge i os.length with hi | hi
  · have := upL_get h (List.getElem?_eq_getElem hi)
    rw [List.getD_eq_getElem?_getD (l := upL os l), this, needL_get l (List.getElem?_eq_getElem hi)]
    simp only [Option.getD_some]; omega
  · rw [List.getD_eq_getElem?_getD, List.getElem?_eq_none (by rw [needL_len]; omega)]; simp
theorem upL_le {os : List Opd} (hf : Fit os) {l : List Nat} (h : LE l (fixL os)) : LE (upL os l) (fixL os) := by
  have hl : l.length = os.length := by rw [h.1, fixL_len hf]
  have h2 := needL_mono os h
  rw [(fixL_fix hf).1] at h2
  refine ⟨by rw [upL_len hl, fixL_len hf], fun i => ?_⟩
  rcases Nat.lt_or_ge i os.length with hi | hi
  · have := upL_get hl (List.getElem?_eq_getElem hi)
    rw [List.getD_eq_getElem?_getD (l := upL os l), this]
    simp only [Option.getD_some]
    have a := h.2 i
    have b := h2.2 i
    rw [needL_get l (List.getElem?_eq_getElem hi)] at b
    omega
  · rw [List.getD_eq_getElem?_getD, List.getElem?_eq_none (by rw [upL_len hl]; omega)]; simp
theorem upL_same {os : List Opd} (hf : Fit os) {l : List Nat} (h : LE l (fixL os)) (he : upL os l = l) : l = fixL os := by
  have hl : l.length = os.length := by rw [h.1, fixL_len hf]
  refine fixL_of h ?_
  have := upL_need hl
  rwa [he] at this
theorem upL_more {os : List Opd} (hf : Fit os) {l : List Nat} (h : LE l (fixL os)) (he : upL os l ≠ l) : adr l os.length < adr (upL os l) os.length := by
  have hl : l.length = os.length := by rw [h.1, fixL_len hf]
  have := adr_lt (upL_ge hl) (fun e => he e.symm)
  rwa [upL_len hl, hl] at this
theorem fix_adr {os : List Opd} (hf : Fit os) {l : List Nat} (h : LE l (fixL os)) (k : Nat) : adr l k ≤ 8 * k := by
  refine adr_le (fun i => Nat.le_trans (h.2 i) ((fixL_fix hf).2.2 i)) k
def zeros (n : Nat) : List Nat := List.replicate n 0
theorem zeros_get (n i : Nat) : (zeros n).getD i 0 = 0 := by
  rw [List.getD_eq_getElem?_getD, zeros, List.getElem?_replicate]; split <;> rfl
theorem adr_zeros (n : Nat) : ∀ k, adr (zeros n) k = 0
  | 0 => rfl
  | k + 1 => by rw [adr, adr_zeros n k, zeros_get]
theorem adrs_zeros (n : Nat) : adrs (zeros n) n = zeros (n + 1) := by
  apply List.ext_getElem?
  intro k
  rcases Nat.lt_or_ge k (n + 1) with h | h
  · rw [adrs_get _ (by omega), adr_zeros, zeros, List.getElem?_replicate, if_pos h]
  · rw [List.getElem?_eq_none (by rw [adrs_len]; exact h), List.getElem?_eq_none (by simp [zeros]; exact h)]
theorem zeros_le {os : List Opd} (hf : Fit os) : LE (zeros os.length) (fixL os) := ⟨by rw [fixL_len hf]; simp [zeros], fun i => by rw [zeros_get]; exact Nat.zero_le _⟩
/-- The addresses of which the first i + 1 are found anew. -/
theorem mixA_at {l u : List Nat} {n i : Nat} (hi : i < n) : (mixL (adrs u n) (adrs l n) (i + 1))[i]? = some (adr u i) := by
  rw [mixL, List.getElem?_append_left (by rw [List.length_take, adrs_len]; omega), List.getElem?_take, if_pos (by omega), adrs_get _ (by omega)]
theorem mixA_zero (l u : List Nat) (n : Nat) : mixL (adrs u n) (adrs l n) 1 = adrs l n := by
  rw [mixL_keep (by rw [adrs_len, adrs_len]) (x := 0) (by rw [adrs_get _ (by omega)]; rfl) (by rw [adrs_get _ (by omega)]; rfl), mixL_zero]
theorem mixA_set {l u : List Nat} {n i : Nat} (hi : i < n) : (mixL (adrs u n) (adrs l n) (i + 1)).set (i + 1) (adr u i + u.getD i 0) = mixL (adrs u n) (adrs l n) (i + 2) := by
  exact mixL_set (by rw [adrs_len, adrs_len]) (by rw [adrs_get _ (by omega)]; rfl)
theorem mixA_end (l u : List Nat) (n : Nat) : mixL (adrs u n) (adrs l n) (n + 1) = adrs u n := by
  have := mixL_end (u := adrs u n) (l := adrs l n) (by rw [adrs_len, adrs_len])
  rwa [adrs_len] at this
end Go.Proofs.YtljeecocbcffcaaDoor

/- operand, walked; the encoding of an instruction, walked. -/
namespace Go.Proofs.YtljeecocbcffcaaDoor
open Go.RowKit Go.Maps Go.WideMaps

def ncells (l : List Nat) : List Value := l.map fun (x : Nat) => .int .i64 (x : Int)
theorem ncells_len (l : List Nat) : (ncells l).length = l.length := by simp [ncells]
theorem ncells_get {l : List Nat} {k x : Nat} (h : l[k]? = some x) : (ncells l)[k]? = some (.int .i64 (x : Int)) := by simp [ncells, h]
def bcells (l : List UInt8) : List Value := l.map fun (x : UInt8) => .int .u8 (x.toNat : Int)
theorem bcells_len (l : List UInt8) : (bcells l).length = l.length := by simp [bcells]
theorem bcells_append (a b : List UInt8) : bcells (a ++ b) = bcells a ++ bcells b := by simp [bcells]
theorem bcells_get {l : List UInt8} {k : Nat} {x : UInt8} (h : l[k]? = some x) : (bcells l)[k]? = some (.int .u8 (x.toNat : Int)) := by simp [bcells, h]
/-- One number of a slice of numbers. -/
theorem num_at {w : World} {B n : Nat} {A : Option Addr} {l : List Nat} (h : Reads w B 1 A n (ncells l)) {k x : Nat} (hx : l[k]? = some x) :
    ∃ b off, A = some ⟨b, off, none⟩ ∧ b < B ∧ k < n ∧ w.cell? ⟨b, off + k, none⟩ = some (.int .i64 (x : Int)) := by
  have hl := h.1
  rw [ncells_len] at hl
  have hk := (List.getElem?_eq_some_iff.1 hx).1
  obtain ⟨b, off, rfl, hb, hc⟩ := h.addr (by omega) (by omega)
  exact ⟨b, off, rfl, hb, by omega, hc _ _ (ncells_get hx)⟩
theorem i32_and15 (n : Int) : bits .and .i32 n 15 = n % 16 := by
  have h15 : (BitVec.ofInt 32 15).toNat = 2 ^ 4 - 1 := by decide
  have key : (BitVec.ofInt 32 n &&& BitVec.ofInt 32 15).toNat = (n % ((2 ^ 32 : Nat) : Int)).toNat % 2 ^ 4 := by
    rw [BitVec.toNat_and, BitVec.toNat_ofInt, h15, Nat.and_two_pow_sub_one_eq_mod]
  show IntKind.i32.wrap ((BitVec.ofInt 32 n &&& BitVec.ofInt 32 15).toNat : Nat) = n % 16
  rw [key, IntKind.wrap_i32]
  omega
theorem i32_not (v : Int) (h : is32 v) : bits .xor .i32 (-1) v = -1 - v := by
  unfold is32 at h
  have h1 : (BitVec.ofInt 32 (-1) ^^^ BitVec.ofInt 32 v).toNat = 4294967295 - (v % ((2 ^ 32 : Nat) : Int)).toNat := by
    have e : BitVec.ofInt 32 (-1) = BitVec.allOnes 32 := by decide
    rw [e, BitVec.allOnes_xor, BitVec.toNat_not, BitVec.toNat_ofInt]
  show IntKind.i32.wrap ((BitVec.ofInt 32 (-1) ^^^ BitVec.ofInt 32 v).toNat : Nat) = -1 - v
  rw [h1, IntKind.wrap_i32]
  omega
theorem u8_join (fn v : Int) (h0 : 0 ≤ fn) (h1 : fn ≤ 15) (h2 : 0 ≤ v) (h3 : v ≤ 15) : bits .or .u8 (fn * 16) v = 16 * fn + v := by
  rw [bits_join .u8 8 (by decide) (fun n a b => by rw [IntKind.wrap_u8]; omega) 4 _ v (by omega) (by omega) (by omega) h2 (by omega) (by omega)]
  omega
set_option maxRecDepth 100000 in
set_option maxHeartbeats 2000000 in
theorem pOperand (ls : List LineL) {i : Nat} {x : LineL} (hx : ls[i]? = some x) (ho : LOk x) (hn : ls.length ≤ 4096) {b q : Nat} (hd : Dist ls) {L : List Nat} (h8 : ∀ i, L.getD i 0 ≤ 8) (A : Option Addr) (c B : Nat) (w : World) (hO : OwnI w b q (mapL ls)) (hB : B ≤ w.heap.size)
    (hat : Reads w B 1 A (ls.length + 1) (ncells (adrs L ls.length))) :
    Calls Tryd.prog 41 #[.agg (lineC x), .int .i64 (i : Int), .map (some b), .slice A (ls.length + 1 : Nat) c] w (RetV (.int .i32 (valO L (opdL ls i x))) w) := by
  have hi := (List.getElem?_eq_some_iff.1 hx).1
  obtain ⟨w0, hw0⟩ : ∃ w0, w.alloc (.cells (lineC x) 27) = w0 := ⟨_, rfl⟩
  have k0 : Below w.heap.size w w0 := by rw [← hw0]; exact (Below.refl _ _).alloc (Nat.le_refl _) _
  have b0 := Blk.new w 27 (lineC x)
  have hO0 := hO.alloc (.cells (lineC x) 27)
  have hat0 := (hat.more hB).below k0
  rw [hw0] at b0 hO0
  have eT := strB_empty x.target
  have eF := strB_empty x.frm
  have a8 := adr_le h8
  have ha := ho.arg
  have hT : x.target ≠ [] → _ := fun h => own_at hO0 hd ho.target h
  have hF : x.frm ≠ [] → _ := fun h => own_at hO0 hd ho.frm h
  have hjT := atL_getD_le (ls := ls) x.target
  have hjF := atL_getD_le (ls := ls) x.frm
  obtain ⟨bk, off, rfl, hbk, -, cT⟩ := num_at hat0 (adrs_get L hjT)
  obtain ⟨_, _, e, -, -, cF⟩ := num_at hat0 (adrs_get L hjF)
  injection e with e; injection e with e1 e2; subst e1 e2
  obtain ⟨_, _, e, -, -, cN⟩ := num_at hat0 (adrs_get L (show i + 1 ≤ ls.length by omega))
  injection e with e; injection e with e1 e2; subst e1 e2
  have hbz : bk < w0.heap.size := by have := k0.size; omega
  have hvT : x.target.isEmpty = true → valO L (opdL ls i x) = x.arg := fun h => by unfold opdL; rw [if_pos h]; rfl
  have hvF : x.target.isEmpty = false → valO L (opdL ls i x) = (adr L ((atL ls x.target).getD 0) : Int) - adr L (if x.frm.isEmpty then i + 1 else (atL ls x.frm).getD 0) := fun h => by unfold opdL; rw [if_neg (by rw [h]; decide)]; rfl
  generalize valO L (opdL ls i x) = res at *
  have z1 := a8 ((atL ls x.target).getD 0)
  have z2 := a8 ((atL ls x.frm).getD 0)
  have z3 := a8 (i + 1)
  have x1 : x.target.isEmpty = false → x.target ≠ [] := fun h => by simpa using h
  have x2 : x.frm.isEmpty = false → x.frm ≠ [] := fun h => by simpa using h
  simp only [lineC] at b0 hw0 ⊢
  clear hO hO0 hat hat0 h8 a8
  generalize hVN : adr L (i + 1) = vN at *
  generalize adr L ((atL ls x.target).getD 0) = vT at *
  generalize hVF : adr L ((atL ls x.frm).getD 0) = vF at *
  have HVN := Lib.hid hVN
  clear hVN
  have HT := Lib.hid hT
  have HF := Lib.hid hF
  clear hT hF
  generalize (atL ls x.target).getD 0 = jT at *
  generalize (atL ls x.frm).getD 0 = jF at *
  have HVF := Lib.hid hVF
  clear hVF
  generalize strB x.target = ST at *
  generalize strB x.frm = SF at *
  generalize strB x.label = SL at *
  generalize ls.length = n at *
  clear hx hd
  have w1 : IntKind.i64.wrap ((i : Int) + 1) = (i : Int) + 1 := IntWalk.i64_in _ (by omega)
  go_enter Tryd.func41, Tryd.ntmps41
  go_upto_region 1 with (fail)
  have c00 := b0.cell 0
  have c01 := b0.cell 1
  have c02 := b0.cell 2
  have c03 := b0.cell 3
  have c04 := b0.cell 4
  simp at c00 c01 c02 c03 c04
  cases zt : x.target.isEmpty with
  | true =>
    rw [zt] at eT
    have e := hvT zt
    clear hvT hvF
    subst e
    go_wp2
    refine bodyPost_ret (v := .int .i32 x.arg) (by simp [results, Tryd.results41, go_sem]) rfl ⟨rfl, k0⟩
  | false =>
    rw [zt] at eT
    have e := hvF zt
    have hT2 := HT.out (x1 zt)
    cases zf : x.frm.isEmpty with
    | true =>
      rw [zf] at eF
      rw [zf] at e
      simp only [if_true] at e
      clear hvT hvF
      go_wp2
      refine bodyPost_ret (v := .int .i32 ((vT : Int) - vN)) (by simp [results, Tryd.results41, go_sem]) rfl ⟨by rw [HVN.out], k0⟩
    | false =>
      rw [zf] at eF
      rw [zf] at e
      simp only [Bool.false_eq_true, if_false] at e
      have hF2 := HF.out (x2 zf)
      clear hvT hvF
      go_wp2
      refine bodyPost_ret (v := .int .i32 ((vT : Int) - vF)) (by simp [results, Tryd.results41, go_sem]) rfl ⟨by rw [HVF.out], k0⟩

/-- What can be encoded. -/
def codeB (fn : Nat) : Bool := decide (fn ≤ 15) && !(fn == 2) && !(fn == 6)
set_option maxRecDepth 100000 in
theorem cValid (fn : Nat) (v : Int) (w : World) : Calls Tryd.prog 80 #[.agg #[.int .u8 fn, .int .i32 v]] w (RetV (.bool (codeB fn)) w) := by
  have k0 : Below w.heap.size w (w.alloc (.cells #[.int .u8 fn, .int .i32 v] 59)) := (Below.refl _ _).alloc (Nat.le_refl _) _
  have b0 := Blk.new w 59 #[.int .u8 fn, .int .i32 v]
  have hc : codeB fn = (decide ((fn : Int) ≤ 15) && (!((fn : Int) == 2) && !((fn : Int) == 6))) := by
    have h1 : decide ((fn : Int) ≤ 15) = decide (fn ≤ 15) := by rw [decide_eq_decide]; omega
    have h2 : ((fn : Int) == 2) = (fn == 2) := by rw [Bool.eq_iff_iff]; simp; omega
    have h3 : ((fn : Int) == 6) = (fn == 6) := by rw [Bool.eq_iff_iff]; simp; omega
    rw [h1, h2, h3, codeB, Bool.and_assoc]
  go_enter Tryd.func80, Tryd.ntmps80
  by_cases h1 : (fn : Int) ≤ 15
  · by_cases h2 : ((fn : Int) != 2) = true
    · go_wp2
      refine bodyPost_ret (v := .bool ((fn : Int) != 6)) (by simp [results, Tryd.results80, go_sem]) rfl ⟨?_, k0⟩
      rw [hc]
      have e1 : ((fn : Int) == 2) = false := by simpa using h2
      rw [e1, decide_eq_true h1]; rfl
    · have h2 : ((fn : Int) != 2) = false := by simpa using h2
      go_wp2
      refine bodyPost_ret (v := .bool false) (by simp [results, Tryd.results80, go_sem]) rfl ⟨?_, k0⟩
      rw [hc]
      have e1 : ((fn : Int) == 2) = true := by simpa using h2
      rw [e1, decide_eq_true h1]; rfl
  · rw [hc]
    go_wp2
    refine bodyPost_ret (v := .bool false) (by simp [results, Tryd.results80, go_sem]) rfl ⟨?_, k0⟩
    have e1 : decide ((fn : Int) ≤ 15) = false := by simpa using h1
    rw [e1]; rfl
/-- A call that leaves a row of its own. -/
def RetRow (T size n : Nat) (xs : List Value) (w : World) (e : Ending) (w' : World) : Prop :=
  ∃ v, e = .returned v ∧ w'.ownsRow w.heap.size T size v n xs ∧ Below w.heap.size w w'
theorem byte_info : (Tryd.prog.info? 5).map (fun i => (i.zero, i.size, i.bytes)) = some (some (.int .u8 0), 1, 1) := by kernel_rfl
/-- append of one cell that the statement itself lays. -/
theorem wpList_app_own {P : Program} {ops : Array Oper} {rest : List Oper} {o : Oper} {a : Act} {Q : Exit → Act → World → Prop} {w : World} {t B e size bytes : Nat} {i : TypeInfo} {z v : Value} {n : Nat} {xs : List Value}
    (hgd : o.guard = none) (s x : Operand) (ho : o.op = .call { callee := .builtin .append, args := #[s, x], argTypes := #[t, t] })
    (ht : P.underlying t = some (.slice e)) (hi : P.info? e = some i) (hz : i.zero = some z) (hsize : i.size = size) (hby : i.bytes = bytes) (hzs : z.cells.size = size) (hsz : 0 < size)
    (hown : w.ownsRow B e size v n xs) (hB : B ≤ w.heap.size) (hs : a.eval s = v)
    (g m c : Nat) (news : Array Value) (hx : a.eval x = .slice (some ⟨g, 0, none⟩) m c) (hb : Blk w g e news) (hl : news.size = m * size) (h1 : ∀ u ∈ news.toList, u.oneCell' = true)
    (h63 : n + m ≤ 1099511627776) (hbytes : (n + m) * bytes ≤ 140737488355328)
    (h : ∀ v' w', w'.ownsRow B e size v' (n + m) (xs ++ news.toList) → w.grownBy w' v.ownBlock → Below B w w' → wpList P ops Q rest (a.put o.dst v') w') : wpList P ops Q (o :: rest) a w := by
  refine wpList_append_any w hgd s x t ho B e i z size bytes ht hi hz hsize hby hzs hsz v n xs hs hown (g + 1) (some ⟨g, 0, none⟩) m c news.toList hx ⟨by simpa using hl, fun _ => ⟨_, rfl, by simp, fun j u hu => ?_⟩⟩ h1 (by unfold maxLen; omega) hbytes hB ?_
  · have := hb.cell j
    have hadd : (⟨g, 0, none⟩ : Addr).add j = ⟨g, j, none⟩ := by unfold Addr.add; split <;> simp_all
    rw [hadd, this]; simpa using hu
  · intro v' w' hown' hg hat
    exact h v' w' hown' hg ((Below.refl _ _).grown hg hB (fun k hk => (hown.lt k hk).1))
theorem one_byte {fn v : Int} (h0 : 0 ≤ fn) (h1 : fn ≤ 15) : bits .or .u8 (fn * 16) (v % 16) = ((UInt8.ofNat (16 * fn.toNat + (v % 16).toNat)).toNat : Int) := by
  rw [u8_join _ _ h0 h1 (by omega) (by omega)]
  have : (UInt8.ofNat (16 * fn.toNat + (v % 16).toNat)).toNat = 16 * fn.toNat + (v % 16).toNat := by
    rw [UInt8.toNat_ofNat']; omega
  rw [this]; omega
theorem RetRow.mk {T size n : Nat} {xs : List Value} {w w' : World} {v : Value} {B : Nat} (h : w'.ownsRow B T size v n xs) (hB : w.heap.size ≤ B) (hb : Below w.heap.size w w') : RetRow T size n xs w (.returned v) w' := by
  refine ⟨v, rfl, ⟨h.1, ?_⟩, hb⟩
  rcases h.2 with hn | ⟨g, cap, cur, e1, hb', rest⟩
  · exact .inl hn
  · exact .inr ⟨g, cap, cur, e1, by omega, rest⟩
/-- The end of put: one byte behind what there is. -/
theorem enc_step {k fn m : Nat} (h : 16 ≤ m) : encF (k + 1) fn m = encF k 2 (m / 16) ++ [UInt8.ofNat (16 * fn + m % 16)] := by rw [encF, if_pos h]
theorem enc_last {k fn m : Nat} (h : m < 16) : encF k fn m = [UInt8.ofNat (16 * fn + m % 16)] := by
  cases k with
  | zero => rfl
  | succ k => rw [encF, if_neg (by omega)]
theorem one_byte_nat {fn m : Nat} (h1 : fn ≤ 15) : bits .or .u8 ((fn : Int) * 16) ((m : Int) % 16) = ((UInt8.ofNat (16 * fn + m % 16)).toNat : Int) := by
  have := one_byte (fn := (fn : Int)) (v := (m : Int)) (by omega) (by omega)
  rw [this]
  congr 3
theorem encF_le : ∀ (k fn m : Nat), (encF k fn m).length ≤ k + 1
  | 0, _, _ => Nat.le_refl _
  | k + 1, fn, m => by
    rw [encF]
    split
    · have := encF_le k 2 (m / 16)
      simp; omega
    · simp
set_option maxRecDepth 100000 in
set_option maxHeartbeats 2000000 in
theorem cPut_last (fn m : Nat) (w : World) (hf : fn ≤ 15) (hm : m < 16) :
    Calls Tryd.prog 81 #[.slice none 0 0, .int .u8 fn, .int .i32 m] w (RetRow 5 1 1 (bcells [UInt8.ofNat (16 * fn + m % 16)]) w) := by
  obtain ⟨i0, hi0, hz0, hz1, hz2⟩ := info_parts byte_info
  have h1 : ¬ (m : Int) < 0 := by omega
  have h2 : ¬ 15 < (m : Int) := by omega
  have ha := i32_and15 (m : Int)
  have hbv := one_byte_nat (m := m) hf
  have e1 : bcells [UInt8.ofNat (16 * fn + m % 16)] = [.int .u8 ((UInt8.ofNat (16 * fn + m % 16)).toNat : Int)] := rfl
  rw [e1]
  generalize ((UInt8.ofNat (16 * fn + m % 16)).toNat : Int) = bv at *
  have b0 := Blk.new w 5 #[.int .u8 bv]
  have hn0 : (w.alloc (.cells #[.int .u8 bv] 5)).ownsRow w.heap.size 5 1 (.slice none 0 0) 0 [] := World.ownsRow_nil _ _ _ _
  have HN0 := Lib.hid hn0
  have k0 : Below w.heap.size w (w.alloc (.cells #[.int .u8 bv] 5)) := (Below.refl _ _).alloc (Nat.le_refl _) _
  clear hn0
  go_enter Tryd.func81, Tryd.ntmps81
  go_wp2_with (at_builtin; refine wpList_app_own rfl (.tmp 22) (.tmp 29) rfl Tryd.underlying22 hi0 hz0 hz1 hz2 rfl (by decide) HN0.out (by simp) rfl w.heap.size 1 1 #[.int .u8 bv] rfl b0 rfl (by simp [Value.oneCell']) (by omega) (by omega) ?_; intro v' w' hown hg hb)
  go_ret
  exact RetRow.mk hown (Nat.le_refl _) (k0.trans hb)
set_option maxRecDepth 100000 in
set_option maxHeartbeats 2000000 in
theorem cPut_pos : ∀ (k fn m : Nat) (w : World), k ≤ 8 → fn ≤ 15 → m < 16 ^ (k + 1) → m < 2147483648 →
    Calls Tryd.prog 81 #[.slice none 0 0, .int .u8 fn, .int .i32 m] w (RetRow 5 1 (encF k fn m).length (bcells (encF k fn m)) w) := by
  intro k
  induction k with
  | zero =>
    intro fn m w hk hf hm h31
    have hm : m < 16 := by simpa using hm
    exact cPut_last fn m w hf hm
  | succ k ih =>
    intro fn m w hk hf hm h31
    by_cases h16 : m < 16
    · rw [enc_last h16]
      exact cPut_last fn m w hf h16
    obtain ⟨i0, hi0, hz0, hz1, hz2⟩ := info_parts byte_info
    have HI := Lib.hid (ih 2 (m / 16) w (by omega) (by decide) (by rw [Nat.pow_succ] at hm; omega) (by omega))
    have hl := encF_le k 2 (m / 16)
    rw [enc_step (by omega), bcells_append, List.length_append]
    clear ih
    generalize encF k 2 (m / 16) = l0 at *
    have h1 : ¬ (m : Int) < 0 := by omega
    have h2 : 15 < (m : Int) := by omega
    have ha := i32_and15 (m : Int)
    have hbv := one_byte_nat (m := m) hf
    have e1 : bcells [UInt8.ofNat (16 * fn + m % 16)] = [.int .u8 ((UInt8.ofNat (16 * fn + m % 16)).toNat : Int)] := rfl
    have e2 : [UInt8.ofNat (16 * fn + m % 16)].length = 1 := rfl
    rw [e1, e2]
    generalize ((UInt8.ofNat (16 * fn + m % 16)).toNat : Int) = bv at *
    have hdiv : ((m / 16 : Nat) : Int) = (m : Int) / 16 := by omega
    rw [hdiv] at HI
    rw [show ((2 : Nat) : Int) = 2 from rfl] at HI
    clear hdiv
    go_enter Tryd.func81, Tryd.ntmps81
    go_wp2_with (first
      | (go_at_call 81; refine HI.out.mono ?_; rintro e w1 ⟨v1, rfl, hown1, hb1⟩
         have b0 := Blk.new w1 5 #[.int .u8 bv]
         have HO1 := Lib.hid (hown1.alloc (.cells #[.int .u8 bv] 5))
         have k0 : Below w.heap.size w (w1.alloc (.cells #[.int .u8 bv] 5)) := hb1.alloc hb1.size _
         have hsz := hb1.size)
      | (at_builtin; refine wpList_app_own rfl (.tmp 22) (.tmp 29) rfl Tryd.underlying22 hi0 hz0 hz1 hz2 rfl (by decide) HO1.out (by simp; omega) rfl w1.heap.size 1 1 #[.int .u8 bv] rfl b0 rfl (by simp [Value.oneCell']) (by omega) (by omega) ?_; intro v' w' hown hg hb))
    go_ret
    exact RetRow.mk hown (Nat.le_refl _) (k0.trans hb)
set_option maxRecDepth 100000 in
set_option maxHeartbeats 2000000 in
theorem cPut (fn : Nat) (v : Int) (w : World) (hf : fn ≤ 15) (hv : is32 v) :
    Calls Tryd.prog 81 #[.slice none 0 0, .int .u8 fn, .int .i32 v] w (RetRow 5 1 (lenV v) (bcells (encI fn v)) w) := by
  rw [← encI_len fn v]
  unfold is32 at hv
  by_cases hneg : v < 0
  · obtain ⟨i0, hi0, hz0, hz1, hz2⟩ := info_parts byte_info
    have h16 : (16 : Nat) ^ (8 + 1) = 68719476736 := by decide
    have HI := Lib.hid (cPut_pos 8 6 ((-1 - v) / 16).toNat w (by omega) (by decide) (by omega) (by omega))
    rw [show ((6 : Nat) : Int) = 6 from rfl] at HI
    clear h16
    have hx : bits .xor .i32 (if IntKind.i32.signed = true then -1 else IntKind.i32.max) v = -1 - v := i32_not v hv
    have hl := encF_le 8 6 ((-1 - v) / 16).toNat
    have e0 : encI fn v = encF 8 6 ((-1 - v) / 16).toNat ++ [UInt8.ofNat (16 * fn + (v % 16).toNat)] := by rw [encI, if_pos hneg]
    rw [e0, bcells_append, List.length_append]
    have hdiv : ((((-1 - v) / 16).toNat : Nat) : Int) = (-1 - v) / 16 := by omega
    rw [hdiv] at HI
    clear hdiv e0
    generalize encF 8 6 ((-1 - v) / 16).toNat = l0 at *
    have h1 : v < 0 := hneg
    have h2 : ¬ 15 < v := by omega
    have ha := i32_and15 v
    have hbv : bits .or .u8 ((fn : Int) * 16) (v % 16) = ((UInt8.ofNat (16 * fn + (v % 16).toNat)).toNat : Int) := by
      have := one_byte (fn := (fn : Int)) (v := v) (by omega) (by omega)
      rw [this]; congr 3
    have e1 : bcells [UInt8.ofNat (16 * fn + (v % 16).toNat)] = [.int .u8 ((UInt8.ofNat (16 * fn + (v % 16).toNat)).toNat : Int)] := rfl
    have e2 : [UInt8.ofNat (16 * fn + (v % 16).toNat)].length = 1 := rfl
    rw [e1, e2]
    generalize ((UInt8.ofNat (16 * fn + (v % 16).toNat)).toNat : Int) = bv at *
    go_enter Tryd.func81, Tryd.ntmps81
    go_wp2_with (first
      | (go_at_call 81; refine HI.out.mono ?_; rintro e w1 ⟨v1, rfl, hown1, hb1⟩
         have b0 := Blk.new w1 5 #[.int .u8 bv]
         have HO1 := Lib.hid (hown1.alloc (.cells #[.int .u8 bv] 5))
         have k0 : Below w.heap.size w (w1.alloc (.cells #[.int .u8 bv] 5)) := hb1.alloc hb1.size _
         have hsz := hb1.size)
      | (at_builtin; refine wpList_app_own rfl (.tmp 22) (.tmp 29) rfl Tryd.underlying22 hi0 hz0 hz1 hz2 rfl (by decide) HO1.out (by simp; omega) rfl w1.heap.size 1 1 #[.int .u8 bv] rfl b0 rfl (by simp [Value.oneCell']) (by omega) (by omega) ?_; intro v' w' hown hg hb))
    go_ret
    exact RetRow.mk hown (Nat.le_refl _) (k0.trans hb)
  · have e : encI fn v = encF 8 fn v.toNat := by rw [encI, if_neg hneg]
    have h16 : (16 : Nat) ^ (8 + 1) = 68719476736 := by decide
    have := cPut_pos 8 fn v.toNat w (by omega) hf (by omega) (by omega)
    rw [e]
    rwa [show ((v.toNat : Nat) : Int) = v by omega] at this
end Go.Proofs.YtljeecocbcffcaaDoor
