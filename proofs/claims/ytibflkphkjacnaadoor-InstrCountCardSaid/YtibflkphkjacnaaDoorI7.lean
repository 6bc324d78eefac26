
/- The reference's Text, walked. -/
import Derived.Test.YtibflkphkjacnaaDoorI6
namespace Go.Proofs.YtibflkphkjacnaaDoor
open Go.RowKit
set_option linter.unusedVariables false
set_option linter.unusedSimpArgs false

def textV (fn arg : Int) : Value := .tuple #[.string (strB (textI fn arg).1), .int .i64 (textI fn arg).2]
theorem textI_none {fn arg : Int} (h : findI fn arg = none) : textI fn arg = ([], 2) := by unfold textI; rw [h]
theorem textI_15 {arg : Int} {r : IRow} (h : findI 15 arg = some r) : textI 15 arg = (r.name, 0) := by unfold textI; rw [h]; rfl
theorem textI_fn {fn arg : Int} {r : IRow} (h : findI fn arg = some r) (h15 : fn ≠ 15) : textI fn arg = (r.name ++ 32 :: textL arg false, 0) := by unfold textI; rw [h]; simp [h15]
theorem strB_sp (l m : List UInt8) : strB l ++ ⟨#[32]⟩ ++ strB m = strB (l ++ 32 :: m) := by
  have e : (⟨#[32]⟩ : ByteArray) = strB [32] := rfl
  rw [e, str_append, str_append, List.append_assoc]; rfl
theorem tt_eq {l l' : List UInt8} {k k' : Int} (h : (l, k) = (l', k')) : Ending.returned (.tuple #[.string (strB l), .int .i64 k]) = .returned (.tuple #[.string (strB l'), .int .i64 k']) := by
  injection h with h1 h2; rw [h1, h2]
theorem strB_size (l : List UInt8) : (strB l).size = l.length := rfl
theorem textS_size (a : Int) (h : Bool) (ha : is32 a) : (strB (textL a h)).size ≤ 11 := by
  rw [strB_size]; exact (textL_len (g := h) ha).2
set_option maxRecDepth 100000 in
set_option maxRecDepth 100000 in
theorem rTextI (fn arg : Int) (hf : 0 ≤ fn ∧ fn ≤ 255) (ha : is32 arg) (w : World) : Calls Tryd.prog 13 #[.agg #[.int .u8 fn, .int .i32 arg]] w (RetV (textV fn arg) w) := by
  have HFi := Lib.hid (fun w => rFind fn arg hf w)
  have HTx := Lib.hid (fun w => rText arg false w ha)
  have htl := textS_size arg false ha
  unfold rowR rowA at HFi
  obtain ⟨wb, hwb⟩ : ∃ wb, w.alloc (.cells #[.int .u8 fn, .int .i32 arg] 23) = wb := ⟨_, rfl⟩
  have hbs : wb.heap.size = w.heap.size + 1 := by rw [← hwb]; simp
  have hB0 : Below w.heap.size w wb := by rw [← hwb]; exact (Below.refl _ _).alloc (Nat.le_refl _) _
  have k0 : Blk wb w.heap.size 23 #[.int .u8 fn, .int .i32 arg] := by rw [← hwb]; exact Blk.new w _ _
  have Hwb := Lib.hid hwb
  clear hwb
  cases hF : findI fn arg with
  | none =>
    rw [hF] at HFi
    have HE := Lib.hid (textI_none hF)
    clear hF
    have c00 := k0.cell 0
    have c01 := k0.cell 1
    simp at c00 c01
    go_enter Tryd.func13, Tryd.ntmps13
    go_upto_region 1 with (fail)
    rw [Hwb.out]
    go_wp2_with (first
      | (go_at_call 9; refine (HFi.out _).mono ?_; rintro e w1 ⟨rfl, hb1⟩))
    go_ret2
    exact ⟨(tt_eq HE.out.symm : _ = Ending.returned (textV fn arg)), (hB0.trans (hb1.mono (by omega))).alloc (by have := hb1.size; omega) _⟩
  | some r =>
    rw [hF] at HFi
    obtain ⟨hm, hcc⟩ := findI_some hF
    obtain ⟨-, -, hn12⟩ := row_ok hm
    have hnm : (strB r.name).size ≤ 12 := by rw [strB_size]; exact hn12
    have HF := Lib.hid hF
    clear hF hm hcc hn12
    simp only [Option.getD_some, Option.isSome_some] at HFi
    generalize hNM : strB r.name = NM at HFi hnm
    have HNM := Lib.hid hNM
    clear hNM
    have c00 := k0.cell 0
    have c01 := k0.cell 1
    simp at c00 c01
    by_cases h15 : fn = 15
    · subst h15
      have HE := Lib.hid (textI_15 HF.out)
      go_enter Tryd.func13, Tryd.ntmps13
      go_upto_region 1 with (fail)
      rw [Hwb.out]
      go_wp2_with (first
        | (go_at_call 9; refine (HFi.out _).mono ?_; rintro e w1 ⟨rfl, hb1⟩;
           have k1 := k0.call hb1;
           have l1 := k1.lt;
           have c10 := k1.cell 0;
           simp at c10))
      go_ret2
      refine ⟨?_, (hB0.trans (hb1.mono (by omega))).alloc (by have := hb1.size; omega) _⟩
      rw [← HNM.out]
      exact tt_eq HE.out.symm
    · have t15 : (fn == 15) = false := by simpa using h15
      have HE := Lib.hid (textI_fn HF.out h15)
      clear h15
      go_enter Tryd.func13, Tryd.ntmps13
      go_upto_region 1 with (fail)
      rw [Hwb.out]
      go_upto_region 6 with (first
        | (go_at_call 9; refine (HFi.out _).mono ?_; rintro e w1 ⟨rfl, hb1⟩;
           have k1 := k0.call hb1;
           have l1 := k1.lt;
           have c10 := k1.cell 0;
           simp at c10))
      have bR := Blk.new w1 25 #[.int .u8 r.fn, .int .i32 r.arg, .string NM, .int .i64 r.takes, .int .i64 r.leaves]
      have kR := k1.alloc (.cells #[.int .u8 r.fn, .int .i32 r.arg, .string NM, .int .i64 r.takes, .int .i64 r.leaves] 25)
      have hBR := (hB0.trans (hb1.mono (by omega))).alloc (by have := hb1.size; omega) (.cells #[.int .u8 r.fn, .int .i32 r.arg, .string NM, .int .i64 r.takes, .int .i64 r.leaves] 25)
      obtain ⟨g, hg⟩ : ∃ g, w1.heap.size = g := ⟨_, rfl⟩
      obtain ⟨W, hW⟩ : ∃ W, w1.alloc (.cells #[.int .u8 r.fn, .int .i32 r.arg, .string NM, .int .i64 r.takes, .int .i64 r.leaves] 25) = W := ⟨_, rfl⟩
      rw [hW] at bR kR hBR ⊢
      rw [hg] at bR ⊢
      clear hW hg k1 c10 l1 c00 c01 k0 hB0 hb1 HFi Hwb hbs
      have c00 := kR.cell 0
      have c01 := kR.cell 1
      simp at c00 c01
      have c10 := bR.cell 0
      have c11 := bR.cell 1
      have c12 := bR.cell 2
      have c13 := bR.cell 3
      have c14 := bR.cell 4
      simp at c10 c11 c12 c13 c14
      have lK := kR.lt
      have lR := bR.lt
      have hc1 : ¬ 9223372036854775807 < NM.size + 1 := by omega
      have hc2 : ¬ 9223372036854775807 < NM.size + 1 + (strB (textL arg false)).size := by omega
      go_region_held3 (fun w' => W.heap.size ≤ w'.heap.size ∧ ∀ b o, b < W.heap.size → w'.cell? ⟨b, o, none⟩ = W.cell? ⟨b, o, none⟩) ((first | exact SBel.drew | exact SBel.drew.below hb1)) ((go_at_call 24; refine (HTx.out _).mono ?_; rintro e w2 ⟨rfl, hb1⟩))
      all_goals
        go_wp2
        go_ret2
        refine ⟨?_, hBR.trans (((Below.refl W.heap.size W).drew.trans hb1).mono hBR.size)⟩
        rw [← HNM.out, strB_sp]
        exact tt_eq HE.out.symm
end Go.Proofs.YtibflkphkjacnaaDoor
