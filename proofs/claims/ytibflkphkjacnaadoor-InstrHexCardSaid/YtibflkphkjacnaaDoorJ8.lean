
/- The laws InstrBack and InstrHex: what is written is read back. -/
import Derived.Test.YtibflkphkjacnaaDoorJ7
namespace Go.Proofs.YtibflkphkjacnaaDoor
open Go.RowKit
set_option linter.unusedVariables false
set_option linter.unusedSimpArgs false

theorem text_size {fn arg : Int} (ha : is32 arg) : (strB (textI fn arg).1).size ≤ 281474976710656 := by
  have h : (textI fn arg).1.length ≤ 100 := by
    unfold textI
    cases hf : findI fn arg with
    | none => simp
    | some r =>
      obtain ⟨hm, -⟩ := findI_some hf
      obtain ⟨-, -, hn⟩ := row_ok hm
      have hl := textL_len (g := false) ha
      simp only
      split
      · omega
      · simp only [List.length_append, List.length_cons]; omega
  rw [strB_size]; omega
theorem str_eq2 (l m : List UInt8) : ((strB l).toList == (strB m).toList) = (l == m) := by
  rw [ByteArray.toList_eq, ByteArray.toList_eq]; rfl
theorem read_of_text {fn arg : Int} (ha : is32 arg) (h : (textI fn arg).2 = 0) : readIV (strB (textI fn arg).1).data.toList = .tuple #[.agg #[.int .u8 fn, .int .i32 arg], .int .i64 0] := by
  have e : (strB (textI fn arg).1).data.toList = (textI fn arg).1 := by simp [strB]
  rw [e, readIV, read_text_I ha h]
theorem text_err {fn arg : Int} {r : IRow} (h : findI fn arg = some r) : (textI fn arg).2 = 0 := by unfold textI; rw [h]
set_option maxRecDepth 100000 in
set_option maxHeartbeats 2000000 in
theorem back_true (a b c d : Int) (ha : 0 ≤ a ∧ a ≤ 255) (hb : is32 b) (hc : 0 ≤ c ∧ c ≤ 255) (hd : is32 d) (B : Nat) (w : World) (hL : Laid5 B w) (hB : B ≤ w.heap.size) :
    Calls Tryd.prog 6 #[.agg #[.int .u8 a, .int .i32 b], .agg #[.int .u8 c, .int .i32 d]] w (RetV (.bool true) w) := by
  have hS := Lib.hid (((S5.start hL hB).alloc (.cells #[.int .u8 a, .int .i32 b] 23)).alloc (.cells #[.int .u8 c, .int .i32 d] 23))
  have bx := (Blk.new w 23 #[.int .u8 a, .int .i32 b]).alloc (.cells #[.int .u8 c, .int .i32 d] 23)
  have by0 := Blk.new (w.alloc (.cells #[.int .u8 a, .int .i32 b] 23)) 23 #[.int .u8 c, .int .i32 d]
  rw [World.size_alloc] at by0
  have h1 := fun w h1 h2 => pText a b ha hb B w h1 h2
  have h2 := fun w h1 h2 => pText c d hc hd B w h1 h2
  have h3 := fun w h1 h2 => pName a b ha B w h1 h2
  have h4 := fun w h1 h2 => pEffect a b ha B w h1 h2
  have h5 := fun w h1 h2 => pMay a b ha B w h1 h2
  have h6 := fun w h1 h2 => pRead (strB (textI a b).1) (text_size hb) B w h1 h2
  have H7 := Lib.hid (fun w h1 h2 => awake_yes B w h1 h2)
  unfold nameP at h3
  unfold effectP at h4
  unfold textV at h1 h2
  clear hL hB
  cases hF : findI a b with
  | none =>
    rw [textI_none hF] at h1
    rw [hF] at h3 h4 h5
    simp only [Option.getD_none, Option.isSome_none] at h3 h4 h5
    have e0 : strB ([] : List UInt8) = ⟨#[]⟩ := rfl
    have e1 : strB irow0.name = ⟨#[]⟩ := rfl
    rw [e0] at h1
    rw [e1] at h3
    generalize strB (textI c d).1 = T2 at *
    generalize (textI c d).2 = te2 at *
    have H1 := Lib.hid h1
    have H2 := Lib.hid h2
    have H3 := Lib.hid h3
    have H4 := Lib.hid h4
    have H5 := Lib.hid h5
    clear h1 h2 h3 h4 h5 h6 hF e0 e1
    go_enter Tryd.func6, Tryd.ntmps6
    go_upto_region 1 with (fail)
    generalize (w.alloc (.cells #[.int .u8 a, .int .i32 b] 23)).alloc (.cells #[.int .u8 c, .int .i32 d] 23) = W0 at *
    have c00 := bx.cell 0
    have c01 := bx.cell 1
    simp at c00 c01
    go_wp2_with (first
      | (go_at_call 12; (with_reducible refine (H1.out _ hS.out.l hS.out.b).mono ?_); rintro e w2 ⟨rfl, hb2⟩; have bx2 := bx.call hb2; have by2 := by0.call hb2; have hS2 := Lib.hid (hS.out.call hb2); have c20 := bx2.cell 0; have c21 := bx2.cell 1; have d20 := by2.cell 0; have d21 := by2.cell 1; simp at c20 c21 d20 d21; clear hb2 hS)
      | (go_at_call 12; (with_reducible refine (H2.out _ hS2.out.l hS2.out.b).mono ?_); rintro e w3 ⟨rfl, hb3⟩; have bx3 := bx2.call hb3; have hS3 := Lib.hid (hS2.out.call hb3); have c30 := bx3.cell 0; have c31 := bx3.cell 1; simp at c30 c31; clear hb3 hS2)
      | (go_at_call 10; refine (H3.out _ hS3.out.l hS3.out.b).mono ?_; rintro e w4 ⟨rfl, hb4⟩; have bx4 := bx3.call hb4; have hS4 := Lib.hid (hS3.out.call hb4); have c40 := bx4.cell 0; have c41 := bx4.cell 1; simp at c40 c41; clear hb4 hS3)
      | (go_at_call 11; refine (H4.out _ hS4.out.l hS4.out.b).mono ?_; rintro e w5 ⟨rfl, hb5⟩; have bx5 := bx4.call hb5; have hS5 := Lib.hid (hS4.out.call hb5); have c50 := bx5.cell 0; have c51 := bx5.cell 1; simp at c50 c51; clear hb5 hS4)
      | (go_at_call 14; refine (H5.out _ hS5.out.l hS5.out.b).mono ?_; rintro e w6 ⟨rfl, hb6⟩; have hS6 := Lib.hid (hS5.out.call hb6); clear hb6 hS5)
      | (go_at_call 15; refine (H7.out _ hS6.out.l hS6.out.b).mono ?_; rintro e w7 ⟨rfl, hb7⟩))
    go_ret
    exact ⟨rfl, (hS6.out.call hb7).k⟩
  | some r =>
    have ht0 := text_err hF
    have hrd := read_of_text hb ht0
    rw [hrd] at h6
    rw [ht0] at h1
    rw [hF] at h3 h4 h5
    simp only [Option.getD_some, Option.isSome_some] at h3 h4 h5
    obtain ⟨q, hq1, hq2⟩ : ∃ q : Bool, ((textI c d).2 = 0 → ((strB (textI a b).1).toList == (strB (textI c d).1).toList) = q) ∧ instEq a b c d = q := by
      refine ⟨instEq a b c d, fun h0 => ?_, rfl⟩
      rw [str_eq2, Bool.eq_iff_iff]
      simp only [beq_iff_eq, instEq, decide_eq_true_eq]
      constructor
      · intro h; exact text_inj_I hb hd ht0 h0 h
      · rintro ⟨rfl, rfl⟩; rfl
    have hE := instEq_same a b
    generalize strB (textI c d).1 = T2 at *
    generalize strB (textI a b).1 = T1 at *
    generalize (textI c d).2 = te2 at *
    generalize strB r.name = NM at *
    have H1 := Lib.hid h1
    have H2 := Lib.hid h2
    have H3 := Lib.hid h3
    have H4 := Lib.hid h4
    have H5 := Lib.hid h5
    have H6 := Lib.hid h6
    clear h1 h2 h3 h4 h5 h6 hF hrd ht0
    by_cases h0 : te2 = 0
    · have hq3 := hq1 h0
      have t0 : (te2 == 0) = true := by rw [h0]; rfl
      clear h0 hq1
      cases q
      all_goals
        go_enter Tryd.func6, Tryd.ntmps6
        go_upto_region 1 with (fail)
        generalize (w.alloc (.cells #[.int .u8 a, .int .i32 b] 23)).alloc (.cells #[.int .u8 c, .int .i32 d] 23) = W0 at *
        have c00 := bx.cell 0
        have c01 := bx.cell 1
        simp at c00 c01
        go_wp2_with (first
          | (go_at_call 12; (with_reducible refine (H1.out _ hS.out.l hS.out.b).mono ?_); rintro e w2 ⟨rfl, hb2⟩; have bx2 := bx.call hb2; have by2 := by0.call hb2; have hS2 := Lib.hid (hS.out.call hb2); have c20 := bx2.cell 0; have c21 := bx2.cell 1; have d20 := by2.cell 0; have d21 := by2.cell 1; simp at c20 c21 d20 d21; clear hb2 hS)
          | (go_at_call 12; (with_reducible refine (H2.out _ hS2.out.l hS2.out.b).mono ?_); rintro e w3 ⟨rfl, hb3⟩; have bx3 := bx2.call hb3; have by3 := by2.call hb3; have hS3 := Lib.hid (hS2.out.call hb3); have c30 := bx3.cell 0; have c31 := bx3.cell 1; have d30 := by3.cell 0; have d31 := by3.cell 1; simp at c30 c31 d30 d31; clear hb3 hS2)
          | (go_at_call 10; refine (H3.out _ hS3.out.l hS3.out.b).mono ?_; rintro e w4 ⟨rfl, hb4⟩; have bx4 := bx3.call hb4; have hS4 := Lib.hid (hS3.out.call hb4); have c40 := bx4.cell 0; have c41 := bx4.cell 1; simp at c40 c41; clear hb4 hS3)
          | (go_at_call 11; refine (H4.out _ hS4.out.l hS4.out.b).mono ?_; rintro e w5 ⟨rfl, hb5⟩; have bx5 := bx4.call hb5; have hS5 := Lib.hid (hS4.out.call hb5); have c50 := bx5.cell 0; have c51 := bx5.cell 1; simp at c50 c51; clear hb5 hS4)
          | (go_at_call 14; refine (H5.out _ hS5.out.l hS5.out.b).mono ?_; rintro e w6 ⟨rfl, hb6⟩; have bx6 := bx5.call hb6; have hS6 := Lib.hid (hS5.out.call hb6); clear hb6 hS5)
          | (go_at_call 18; refine (H6.out _ hS6.out.l hS6.out.b).mono ?_; rintro e w8 ⟨rfl, hb8⟩; have bx8 := (bx6.call hb8).alloc (.cells #[.int .u8 a, .int .i32 b] 23); have bz8 := Blk.new w8 23 #[.int .u8 a, .int .i32 b]; have hS8 := Lib.hid ((hS6.out.call hb8).alloc (.cells #[.int .u8 a, .int .i32 b] 23)); have c80 := bx8.cell 0; have c81 := bx8.cell 1; have d80 := bz8.cell 0; have d81 := bz8.cell 1; have l8 := (bx6.call hb8).lt; have c60 := (bx6.call hb8).cell 0; have c61 := (bx6.call hb8).cell 1; simp at c60 c61; clear hb8 hS6 c80 c81 d80 d81)
          | (go_at_call 15; refine (H7.out _ hS8.out.l hS8.out.b).mono ?_; rintro e w7 ⟨rfl, hb7⟩))
        go_ret
        exact ⟨rfl, (hS8.out.call hb7).k⟩
    · have t0 : (te2 == 0) = false := by simpa using h0
      clear h0 hq1 hq2
      go_enter Tryd.func6, Tryd.ntmps6
      go_upto_region 1 with (fail)
      generalize (w.alloc (.cells #[.int .u8 a, .int .i32 b] 23)).alloc (.cells #[.int .u8 c, .int .i32 d] 23) = W0 at *
      have c00 := bx.cell 0
      have c01 := bx.cell 1
      simp at c00 c01
      go_wp2_with (first
        | (go_at_call 12; (with_reducible refine (H1.out _ hS.out.l hS.out.b).mono ?_); rintro e w2 ⟨rfl, hb2⟩; have bx2 := bx.call hb2; have by2 := by0.call hb2; have hS2 := Lib.hid (hS.out.call hb2); have c20 := bx2.cell 0; have c21 := bx2.cell 1; have d20 := by2.cell 0; have d21 := by2.cell 1; simp at c20 c21 d20 d21; clear hb2 hS)
        | (go_at_call 12; (with_reducible refine (H2.out _ hS2.out.l hS2.out.b).mono ?_); rintro e w3 ⟨rfl, hb3⟩; have bx3 := bx2.call hb3; have by3 := by2.call hb3; have hS3 := Lib.hid (hS2.out.call hb3); have c30 := bx3.cell 0; have c31 := bx3.cell 1; have d30 := by3.cell 0; have d31 := by3.cell 1; simp at c30 c31 d30 d31; clear hb3 hS2)
        | (go_at_call 10; refine (H3.out _ hS3.out.l hS3.out.b).mono ?_; rintro e w4 ⟨rfl, hb4⟩; have bx4 := bx3.call hb4; have hS4 := Lib.hid (hS3.out.call hb4); have c40 := bx4.cell 0; have c41 := bx4.cell 1; simp at c40 c41; clear hb4 hS3)
        | (go_at_call 11; refine (H4.out _ hS4.out.l hS4.out.b).mono ?_; rintro e w5 ⟨rfl, hb5⟩; have bx5 := bx4.call hb5; have hS5 := Lib.hid (hS4.out.call hb5); have c50 := bx5.cell 0; have c51 := bx5.cell 1; simp at c50 c51; clear hb5 hS4)
        | (go_at_call 14; refine (H5.out _ hS5.out.l hS5.out.b).mono ?_; rintro e w6 ⟨rfl, hb6⟩; have bx6 := bx5.call hb6; have hS6 := Lib.hid (hS5.out.call hb6); clear hb6 hS5)
        | (go_at_call 18; refine (H6.out _ hS6.out.l hS6.out.b).mono ?_; rintro e w8 ⟨rfl, hb8⟩; have hS8 := Lib.hid ((hS6.out.call hb8).alloc (.cells #[.int .u8 a, .int .i32 b] 23)); have l8 := (bx6.call hb8).lt; have c60 := (bx6.call hb8).cell 0; have c61 := (bx6.call hb8).cell 1; simp at c60 c61; clear hb8 hS6)
        | (go_at_call 15; refine (H7.out _ hS8.out.l hS8.out.b).mono ?_; rintro e w7 ⟨rfl, hb7⟩))
      go_ret
      exact ⟨rfl, (hS8.out.call hb7).k⟩
end Go.Proofs.YtibflkphkjacnaaDoor
