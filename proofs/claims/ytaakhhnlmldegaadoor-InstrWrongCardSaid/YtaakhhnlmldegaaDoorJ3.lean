
/- The program's Name, Effect, May and Text. -/
import Derived.Test.YtaakhhnlmldegaaDoorJ2
import Derived.Test.YtaakhhnlmldegaaDoorI7
namespace Go.Proofs.YtaakhhnlmldegaaDoor
open Go.RowKit
set_option linter.unusedVariables false
set_option linter.unusedSimpArgs false

def nameP (o : Option IRow) : Value := .tuple #[.string (strB (o.getD irow0).name), .bool o.isSome]
def effectP (o : Option IRow) : Value := .tuple #[.int .i64 (o.getD irow0).takes, .int .i64 (o.getD irow0).leaves, .bool o.isSome]
section
variable (fn arg : Int) (hf : 0 ≤ fn ∧ fn ≤ 255) (B : Nat) (w : World) (hL : Laid5 B w) (hB : B ≤ w.heap.size)
include hf hL hB

theorem pName : Calls Tryd.prog 5 #[.agg #[.int .u8 fn, .int .i32 arg]] w (RetV (nameP (findI fn arg)) w) := by
  have hB0 : Below w.heap.size w (w.alloc (.cells #[.int .u8 fn, .int .i32 arg] 23)) := (Below.refl _ _).alloc (Nat.le_refl _) _
  have HFi := Lib.hid (pFind fn arg hf B _ (hL.on (hB0.mono hB)) (Nat.le_trans hB hB0.size))
  unfold rowP rowV at HFi
  unfold nameP
  generalize (findI fn arg).isSome = ok at *
  generalize (findI fn arg).getD irow0 = r at *
  generalize strB r.name = NM at *
  clear hL
  go_enter Tryd.func5, Tryd.ntmps5
  go_wp2_with (go_at_call 15; refine HFi.out.mono ?_; rintro e w1 ⟨rfl, hb1⟩)
  go_ret2
  exact ⟨rfl, (hB0.trans (hb1.mono (by simp <;> omega))).alloc (by have := hb1.size; simp at this; omega) _⟩
theorem pMay : Calls Tryd.prog 19 #[.agg #[.int .u8 fn, .int .i32 arg]] w (RetV (.bool (findI fn arg).isSome) w) := by
  have hB0 : Below w.heap.size w (w.alloc (.cells #[.int .u8 fn, .int .i32 arg] 23)) := (Below.refl _ _).alloc (Nat.le_refl _) _
  have HFi := Lib.hid (pFind fn arg hf B _ (hL.on (hB0.mono hB)) (Nat.le_trans hB hB0.size))
  unfold rowP rowV at HFi
  generalize (findI fn arg).isSome = ok at *
  generalize (findI fn arg).getD irow0 = r at *
  generalize strB r.name = NM at *
  clear hL
  go_enter Tryd.func19, Tryd.ntmps19
  go_wp2_with (go_at_call 15; refine HFi.out.mono ?_; rintro e w1 ⟨rfl, hb1⟩)
  go_ret
  exact ⟨rfl, (hB0.trans (hb1.mono (by simp <;> omega))).alloc (by have := hb1.size; simp at this; omega) _⟩
theorem pEffect : Calls Tryd.prog 16 #[.agg #[.int .u8 fn, .int .i32 arg]] w (RetV (effectP (findI fn arg)) w) := by
  have hB0 : Below w.heap.size w (w.alloc (.cells #[.int .u8 fn, .int .i32 arg] 23)) := (Below.refl _ _).alloc (Nat.le_refl _) _
  have HFi := Lib.hid (pFind fn arg hf B _ (hL.on (hB0.mono hB)) (Nat.le_trans hB hB0.size))
  unfold rowP rowV at HFi
  unfold effectP
  generalize (findI fn arg).isSome = ok at *
  generalize (findI fn arg).getD irow0 = r at *
  generalize strB r.name = NM at *
  clear hL
  go_enter Tryd.func16, Tryd.ntmps16
  go_wp2_with (go_at_call 15; refine HFi.out.mono ?_; rintro e w1 ⟨rfl, hb1⟩)
  have bR := Blk.new w1 40 #[.int .i32 r.arg, .string NM, .int .i64 r.takes, .int .i64 r.leaves]
  have hBR := (hB0.trans (hb1.mono (by simp <;> omega))).alloc (by have := hb1.size; simp at this; omega) (.cells #[.int .i32 r.arg, .string NM, .int .i64 r.takes, .int .i64 r.leaves] 40)
  generalize w1.alloc (.cells #[.int .i32 r.arg, .string NM, .int .i64 r.takes, .int .i64 r.leaves] 40) = W at *
  have c10 := bR.cell 0
  have c11 := bR.cell 1
  have c12 := bR.cell 2
  have c13 := bR.cell 3
  simp at c10 c11 c12 c13
  go_quiet (fail)
  go_wp2
  go_ret3
  exact ⟨rfl, hBR.trans ⟨rfl, rfl, rfl, Nat.le_refl _, fun _ _ => rfl⟩⟩
end
theorem pText (fn arg : Int) (hf : 0 ≤ fn ∧ fn ≤ 255) (ha : is32 arg) (B : Nat) (w : World) (hL : Laid5 B w) (hB : B ≤ w.heap.size) :
    Calls Tryd.prog 10 #[.agg #[.int .u8 fn, .int .i32 arg]] w (RetV (textV fn arg) w) := by
  have hB0 : Below w.heap.size w (w.alloc (.cells #[.int .u8 fn, .int .i32 arg] 23)) := (Below.refl _ _).alloc (Nat.le_refl _) _
  have HNa := Lib.hid (pName fn arg hf B _ (hL.on (hB0.mono hB)) (Nat.le_trans hB hB0.size))
  have HTx := Lib.hid (fun w (h : Laid B w) => wText B arg false w ha h)
  have HLW := Lib.hid hL
  have htl := textS_size arg false ha
  unfold nameP at HNa
  have k0 := Blk.new w 23 #[.int .u8 fn, .int .i32 arg]
  obtain ⟨wb, hwb⟩ : ∃ wb, w.alloc (.cells #[.int .u8 fn, .int .i32 arg] 23) = wb := ⟨_, rfl⟩
  have hbs : wb.heap.size = w.heap.size + 1 := by rw [← hwb]; simp
  rw [hwb] at hB0 HNa k0
  have Hwb := Lib.hid hwb
  clear hwb hL
  cases hF : findI fn arg with
  | none =>
    rw [hF] at HNa
    have HE := Lib.hid (textI_none hF)
    clear hF
    have c00 := k0.cell 0
    have c01 := k0.cell 1
    simp at c00 c01
    go_enter Tryd.func10, Tryd.ntmps10
    go_upto_region 1 with (fail)
    rw [Hwb.out]
    go_wp2_with (first
      | (go_at_call 5; refine HNa.out.mono ?_; rintro e w1 ⟨rfl, hb1⟩))
    go_ret2
    exact ⟨(tt_eq HE.out.symm : _ = Ending.returned (textV fn arg)), hB0.trans (hb1.mono (by omega))⟩
  | some r =>
    rw [hF] at HNa
    obtain ⟨hm, hcc⟩ := findI_some hF
    obtain ⟨-, -, hn12⟩ := row_ok hm
    have hnm : (strB r.name).size ≤ 12 := by rw [strB_size]; exact hn12
    have HF := Lib.hid hF
    clear hF hm hcc hn12
    simp only [Option.getD_some, Option.isSome_some] at HNa
    generalize hNM : strB r.name = NM at HNa hnm
    have HNM := Lib.hid hNM
    clear hNM
    have c00 := k0.cell 0
    have c01 := k0.cell 1
    simp at c00 c01
    by_cases h15 : fn = 15
    · subst h15
      have HE := Lib.hid (textI_15 HF.out)
      go_enter Tryd.func10, Tryd.ntmps10
      go_upto_region 1 with (fail)
      rw [Hwb.out]
      go_wp2_with (first
        | (go_at_call 5; refine HNa.out.mono ?_; rintro e w1 ⟨rfl, hb1⟩;
           have k1 := k0.call hb1;
           have l1 := k1.lt;
           have c10 := k1.cell 0;
           simp at c10))
      go_ret2
      refine ⟨?_, hB0.trans (hb1.mono (by omega))⟩
      rw [← HNM.out]
      exact tt_eq HE.out.symm
    · have t15 : (fn == 15) = false := by simpa using h15
      have HE := Lib.hid (textI_fn HF.out h15)
      clear h15
      go_enter Tryd.func10, Tryd.ntmps10
      go_upto_region 1 with (fail)
      rw [Hwb.out]
      go_upto_region 6 with (first
        | (go_at_call 5; refine HNa.out.mono ?_; rintro e w1 ⟨rfl, hb1⟩;
           have k1 := k0.call hb1;
           have l1 := k1.lt;
           have c10 := k1.cell 0;
           simp at c10))
      have c11 := k1.cell 1
      simp at c11
      have hL1 : Hid (Laid B w1) := Lib.hid (HLW.out.on ((hB0.trans (hb1.mono (by omega))).mono hB)).1
      go_wp2_with (go_at_call 13; refine (HTx.out _ hL1.out).mono ?_; rintro e w2 ⟨rfl, hb2⟩)
      go_ret2
      refine ⟨?_, (hB0.trans (hb1.mono (by omega))).trans (hb2.mono (by have := hb1.size; omega))⟩
      rw [← HNM.out, strB_sp]
      exact tt_eq HE.out.symm
end Go.Proofs.YtaakhhnlmldegaaDoor
