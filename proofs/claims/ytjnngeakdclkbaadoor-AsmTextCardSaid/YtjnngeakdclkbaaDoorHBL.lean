/- One and Text of the reference, walked. -/
import Derived.Test.YtjnngeakdclkbaaDoorHBK
namespace Go.Proofs.YtjnngeakdclkbaaDoor
open Go.RowKit Go.Maps Go.WideMaps Go.Shelf
set_option linter.unusedSimpArgs false
set_option linter.unusedVariables false

set_option maxRecDepth 100000 in
set_option maxHeartbeats 4000000 in
theorem rOne (x : LineL) (hx : LOk x) (B : Nat) (w : World) (hL : Laid5 B w) (hB : B ≤ w.heap.size) : Calls Tryd.prog 32 #[.agg (lineC x)] w (RetV (.string (strB (oneT x ++ [10]))) w) := by
  have S0 := S5.start hL hB
  have b0 := Blk.new w 48 (lineC x)
  have S1 := S0.alloc (.cells (lineC x) 48)
  obtain ⟨W, hW⟩ : ∃ W, w.alloc (.cells (lineC x) 48) = W := ⟨_, rfl⟩
  rw [hW] at b0 S1
  have HNm := Lib.hid (rName05 (x.fn : Int) x.arg ⟨by omega, by have := hx.fn; omega⟩ B W S1.l S1.b)
  have HI := Lib.hid (fun w => rNumber x.arg hx.arg w)
  have hil : (strB (textL x.arg false)).size ≤ 11 := textS_size x.arg false hx.arg
  unfold nameP at HNm
  have hnl : (strB ((findI (x.fn : Int) x.arg).getD irow0).name).size ≤ 12 := by rw [strB_size]; exact findI_name_len _ _
  have h1 : (strB x.label).size ≤ 281474976710656 := by rw [strB_size]; exact hx.label
  have h2 : (strB x.target).size ≤ 281474976710656 := by rw [strB_size]; exact hx.target
  have h3 : (strB x.frm).size ≤ 281474976710656 := by rw [strB_size]; exact hx.frm
  have el := strB_empty x.label
  have et := strB_empty x.target
  have ef := strB_empty x.frm
  have hone : strB (oneT x ++ [10]) = (if x.label.isEmpty then strB (nameT x) else strB x.label ++ strB [58, 32] ++ strB (nameT x)) ++
      (if x.fn = 15 then strB [] else if x.target.isEmpty then strB [32] ++ strB (textL x.arg false) else if x.frm.isEmpty then strB [32] ++ strB x.target else strB [32] ++ strB x.target ++ strB [45] ++ strB x.frm) ++ strB [10] := by
    rw [oneT, tailT]
    by_cases h1 : x.label.isEmpty = true <;> by_cases h2 : x.fn = 15 <;> by_cases h3 : x.target.isEmpty = true <;> by_cases h4 : x.frm.isEmpty = true <;>
      simp only [h1, h2, h3, h4, if_true, if_false, str_append, List.append_assoc, List.nil_append, List.cons_append, List.append_nil, Bool.false_eq_true]
  have hle2 := hx.fn
  obtain ⟨ha1, ha2⟩ := hx.arg
  rw [show ((findI (x.fn : Int) x.arg).getD irow0).name = nameT x from rfl] at HNm hnl
  simp only [lineC] at b0 hW ⊢
  clear hL hx S0
  generalize strB (textL x.arg false) = SI at *
  generalize strB (oneT x ++ [10]) = SO at *
  generalize strB (nameT x) = NM at *
  generalize strB x.label = SL at *
  generalize strB x.target = ST at *
  generalize strB x.frm = SF at *
  generalize x.label.isEmpty = zl at *
  generalize x.target.isEmpty = zt at *
  generalize x.frm.isEmpty = zf at *
  generalize (findI (x.fn : Int) x.arg).isSome = bs at *
  have k0 : Below w.heap.size w W := S1.k
  have HS1 := Lib.hid S1
  have HONE := Lib.hid hone
  clear S1 hone
  have c00 := b0.cell 0
  have c01 := b0.cell 1
  have c02 := b0.cell 2
  have c03 := b0.cell 3
  have c04 := b0.cell 4
  simp at c00 c01 c02 c03 c04
  go_enter Tryd.func32, Tryd.ntmps32
  go_upto_region 1 with (fail)
  by_cases h15 : x.fn = 15
  · have h15i : ((x.fn : Int) != 15) = false := by simp; omega
    have H15 := Lib.hid h15
    clear h15
    cases zl
    all_goals
      go_wp2_with (first
        | (go_at_call 50; refine HNm.out.mono ?_; rintro e w1 ⟨rfl, hb1⟩
           have HS2 := Lib.hid (HS1.out.call hb1)
           have b1 := b0.call hb1
           have d00 := b1.cell 0
           have d01 := b1.cell 1
           have d02 := b1.cell 2
           have d03 := b1.cell 3
           have d04 := b1.cell 4
           simp at d00 d01 d02 d03 d04
           ))
      go_ret
      exact ⟨by rw [HONE.out]; simp [strB, ByteArray.append_assoc, H15.out, bapp_nil, bnil_app], HS2.out.k⟩
  have h15i : ((x.fn : Int) != 15) = true := by simp; omega
  have H15 := Lib.hid h15
  clear h15
  cases zt
  · cases zf
    all_goals cases zl
    all_goals
      go_wp2_with (first
        | (go_at_call 50; refine HNm.out.mono ?_; rintro e w1 ⟨rfl, hb1⟩
           have HS2 := Lib.hid (HS1.out.call hb1)
           have b1 := b0.call hb1
           have d00 := b1.cell 0
           have d01 := b1.cell 1
           have d02 := b1.cell 2
           have d03 := b1.cell 3
           have d04 := b1.cell 4
           simp at d00 d01 d02 d03 d04
           ))
      go_ret
      exact ⟨by rw [HONE.out]; simp [strB, ByteArray.append_assoc, H15.out, bapp_nil, bnil_app], HS2.out.k⟩
  · cases zl
    all_goals
      go_wp2_with (first
        | (go_at_call 50; refine HNm.out.mono ?_; rintro e w1 ⟨rfl, hb1⟩
           have HS2 := Lib.hid (HS1.out.call hb1)
           have b1 := b0.call hb1
           have d00 := b1.cell 0
           have d01 := b1.cell 1
           have d02 := b1.cell 2
           have d03 := b1.cell 3
           have d04 := b1.cell 4
           simp at d00 d01 d02 d03 d04
           )
        | (go_at_call 51; refine (HI.out _).mono ?_; rintro e w2 ⟨rfl, hb2⟩
           have HS3 := Lib.hid (HS2.out.call hb2)))
      go_ret
      exact ⟨by rw [HONE.out]; simp [strB, ByteArray.append_assoc, H15.out, bapp_nil, bnil_app], HS3.out.k⟩
set_option maxHeartbeats 2000000 in
set_option maxRecDepth 100000 in
theorem rTextL (ls : List LineL) (hok : ∀ x ∈ ls, LOk x) (hn : ls.length ≤ 4096) (A : Option Addr) (c B : Nat) (w : World) (hr : Reads w w.heap.size 5 A ls.length (linesL ls)) (hL : Laid5 B w) (hB : B ≤ w.heap.size) :
    Calls Tryd.prog 12 #[.slice A (ls.length : Nat) c] w (RetTx ls w) := by
  have S := Lib.hid (S5.start hL hB)
  have HR := Lib.hid hr
  have HK := Lib.hid hok
  have HLN := Lib.hid (textK_len hok)
  obtain ⟨n, hnn⟩ : ∃ n, ls.length = n := ⟨_, rfl⟩
  have HN := Lib.hid hnn
  rw [hnn] at HR hn ⊢
  clear hr hok hL hB hnn
  go_enter Tryd.func12, Tryd.ntmps12
  go_wp2
  go_loopw [4, 5] (fun s p wr => ∃ k : Nat, k ≤ n ∧ p = .int .i64 k ∧ s = .string (strB (textK ls k)) ∧ Hid ((ls.take k).all validB = true) ∧ Hid (S5 B w wr)) (fun _ p _ => n - (intOf p).toNat)
  case atStart => exact ⟨0, by omega, rfl, rfl, Lib.hid rfl, S⟩
  case round =>
    clear S
    obtain ⟨k, hk, rfl, rfl, HV, S⟩ := hrel
    have hkl := HLN.out k HV.out
    by_cases hlt : k < n
    · have hltI : (k : Int) < n := by omega
      obtain ⟨b, off, x, rfl, hb, hx, c0, c1, c2, c3, c4⟩ := lines_at (HR.out.below S.out.k) hlt
      have hbs : b < wr.heap.size := by have := S.out.k.size; omega
      have hxo := HK.out x (List.mem_of_getElem? hx)
      have HC := Lib.hid (rValid x hxo B _ S.out.l S.out.b)
      have HO := Lib.hid (fun w h1 h2 => rOne x hxo B w h1 h2)
      simp only [lineC] at HC HO
      have HX := Lib.hid hx
      have hol := fun hv => oneT_len hxo hv
      clear hx
      generalize hv : validB x = bv at *
      have HVX := Lib.hid hv
      clear hv
      cases bv
      · have hno : ls.all validB = false := by
          rw [List.all_eq_false]
          exact ⟨x, List.mem_of_getElem? HX.out, by simp [HVX.out]⟩
        have HNO := Lib.hid hno
        clear hno hol
        generalize strB (textK ls k) = SK at *
        go_wp2_with (go_at_call 31; refine HC.out.mono ?_; rintro e w1 ⟨rfl, hb1⟩)
        go_ret2
        exact ⟨by rw [HNO.out]; rfl, (S.out.call hb1).k⟩
      · have hsl := hol rfl
        have hall := all_take_succ HX.out HV.out HVX.out
        have HALL := Lib.hid hall
        have hsuc : strB (textK ls (k + 1)) = strB (textK ls k) ++ strB (oneT x ++ [10]) := by rw [textK_succ HX.out, str_append]
        have HSUC := Lib.hid hsuc
        have hs1 : (strB (textK ls k)).size ≤ 300 * k := by rw [strB_size]; exact hkl
        have hs2 : (strB (oneT x ++ [10])).size ≤ 201 := by rw [strB_size]; simp; omega
        clear hall hsuc hsl hol hkl
        have b1 : ∀ (w1 : World), Below wr.heap.size wr w1 → w1.cell? ⟨b, off + k * 5, none⟩ = some (.string (strB x.label)) ∧ w1.cell? ⟨b, off + k * 5 + 1, none⟩ = some (.int .u8 x.fn) ∧ w1.cell? ⟨b, off + k * 5 + 2, none⟩ = some (.int .i32 x.arg) ∧
            w1.cell? ⟨b, off + k * 5 + 3, none⟩ = some (.string (strB x.target)) ∧ w1.cell? ⟨b, off + k * 5 + 4, none⟩ = some (.string (strB x.frm)) := fun w1 h =>
          ⟨(h.cell (p := ⟨b, off + k * 5, none⟩) hbs).trans c0, (h.cell (p := ⟨b, off + k * 5 + 1, none⟩) hbs).trans c1, (h.cell (p := ⟨b, off + k * 5 + 2, none⟩) hbs).trans c2, (h.cell (p := ⟨b, off + k * 5 + 3, none⟩) hbs).trans c3, (h.cell (p := ⟨b, off + k * 5 + 4, none⟩) hbs).trans c4⟩
        have HB1 := Lib.hid b1
        clear b1
        generalize strB (textK ls k) = SK at *
        generalize strB (oneT x ++ [10]) = SO at *
        go_wp2_with (first
          | (go_at_call 31; refine HC.out.mono ?_; rintro e w1 ⟨rfl, hb1⟩
             have HS2 := Lib.hid (S.out.call hb1)
             obtain ⟨d0, d1, d2, d3, d4⟩ := HB1.out w1 hb1
             have hl2 := Lib.hid HS2.out.l
             have hB2 := Lib.hid HS2.out.b)
          | (go_at_call 32; refine (HO.out _ hl2.out hB2.out).mono ?_; rintro e w2 ⟨rfl, hb2⟩
             have HS3 := Lib.hid (HS2.out.call hb2)))
        go_roundw
        case rel => exact ⟨k + 1, by omega, by go_num, by rw [HSUC.out], HALL, HS3⟩
        case measure => simp [intOf]; omega
    · have hltI : ¬ (k : Int) < n := by omega
      obtain rfl : n = k := by omega
      have he : textK ls n = textT ls := by unfold textK; rw [List.take_of_length_le (by rw [HN.out]; omega)]
      have HA : Hid (ls.all validB = true) := Lib.hid (by have := HV.out; rwa [List.take_of_length_le (by rw [HN.out]; omega)] at this)
      rw [he] at hkl ⊢
      clear he
      generalize hst : strB (textT ls) = ST at *
      have HST := Lib.hid hst
      clear hst
      go_wp2
      go_ret2
      exact ⟨by rw [HA.out, if_pos rfl, HST.out]; rfl, S.out.k⟩
end Go.Proofs.YtjnngeakdclkbaaDoor
