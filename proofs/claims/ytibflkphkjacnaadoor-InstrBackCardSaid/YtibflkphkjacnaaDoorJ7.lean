
/- The laws InstrRows, InstrNamed, InstrRead: program and reference answer alike. -/
import Derived.Test.YtibflkphkjacnaaDoorJ6
namespace Go.Proofs.YtibflkphkjacnaaDoor
open Go.RowKit
set_option linter.unusedVariables false
set_option linter.unusedSimpArgs false

set_option maxRecDepth 100000 in
set_option maxHeartbeats 1000000 in
theorem rows_true (fn arg : Int) (hf : 0 ≤ fn ∧ fn ≤ 255) (ha : is32 arg) (B : Nat) (w : World) (hL : Laid5 B w) (hB : B ≤ w.heap.size) :
    Calls Tryd.prog 3 #[.int .u8 fn, .int .i32 arg] w (RetV (.bool true) w) := by
  have hS := Lib.hid ((S5.start hL hB).alloc (.cells #[.int .u8 fn, .int .i32 arg] 23))
  have h1 := fun w => rFind fn arg hf w
  have h2 := fun w h1 h2 => pName fn arg hf B w h1 h2
  have h3 := fun w h1 h2 => pEffect fn arg hf B w h1 h2
  have h4 := fun w h1 h2 => pText fn arg hf ha B w h1 h2
  have h5 := fun w => rTextI fn arg hf ha w
  have h6 := fun w h1 h2 => pMay fn arg hf B w h1 h2
  unfold rowR rowA at h1
  unfold nameP at h2
  unfold effectP at h3
  unfold textV at h4 h5
  generalize (findI fn arg).isSome = ok at *
  generalize (findI fn arg).getD irow0 = r at *
  generalize strB (textI fn arg).1 = T at *
  generalize (textI fn arg).2 = te at *
  generalize strB r.name = NM at *
  have H1 := Lib.hid h1
  have H2 := Lib.hid h2
  have H3 := Lib.hid h3
  have H4 := Lib.hid h4
  have H5 := Lib.hid h5
  have H6 := Lib.hid h6
  have H7 := Lib.hid (fun w h1 h2 => awake_yes B w h1 h2)
  have bx := Blk.new w 23 #[.int .u8 fn, .int .i32 arg]
  clear h1 h2 h3 h4 h5 h6 hL hB
  go_enter Tryd.func3, Tryd.ntmps3
  go_upto_region 2 with (fail)
  generalize w.alloc (.cells #[.int .u8 fn, .int .i32 arg] 23) = W0 at *
  have c00 := bx.cell 0
  have c01 := bx.cell 1
  simp at c00 c01
  go_upto_region 3 with (go_at_call 9; refine (H1.out _).mono ?_; rintro e w1 ⟨rfl, hb1⟩)
  have bx1 := (bx.call hb1).alloc (.cells #[.int .u8 r.fn, .int .i32 r.arg, .string NM, .int .i64 r.takes, .int .i64 r.leaves] 25)
  have br1 := Blk.new w1 25 #[.int .u8 r.fn, .int .i32 r.arg, .string NM, .int .i64 r.takes, .int .i64 r.leaves]
  have hS1 := Lib.hid ((hS.out.call hb1).alloc (.cells #[.int .u8 r.fn, .int .i32 r.arg, .string NM, .int .i64 r.takes, .int .i64 r.leaves] 25))
  obtain ⟨g, hg⟩ : ∃ g, w1.heap.size = g := ⟨_, rfl⟩
  rw [hg] at br1 ⊢
  generalize w1.alloc (.cells #[.int .u8 r.fn, .int .i32 r.arg, .string NM, .int .i64 r.takes, .int .i64 r.leaves] 25) = W1 at *
  clear hb1 hg bx c00 c01 hS
  have c10 := bx1.cell 0
  have c11 := bx1.cell 1
  simp at c10 c11
  go_wp2_with (first
    | (go_at_call 10; refine (H2.out _ hS1.out.l hS1.out.b).mono ?_; rintro e w2 ⟨rfl, hb2⟩; have bx2 := bx1.call hb2; have br2 := br1.call hb2; have hS2 := Lib.hid (hS1.out.call hb2); have c20 := bx2.cell 0; have c21 := bx2.cell 1; simp at c20 c21)
    | (go_at_call 11; refine (H3.out _ hS2.out.l hS2.out.b).mono ?_; rintro e w3 ⟨rfl, hb3⟩; have bx3 := bx2.call hb3; have br3 := br2.call hb3; have hS3 := Lib.hid (hS2.out.call hb3); have c30 := bx3.cell 0; have c31 := bx3.cell 1; simp at c30 c31)
    | (go_at_call 12; refine (H4.out _ hS3.out.l hS3.out.b).mono ?_; rintro e w4 ⟨rfl, hb4⟩; have bx4 := bx3.call hb4; have br4 := br3.call hb4; have hS4 := Lib.hid (hS3.out.call hb4); have c40 := bx4.cell 0; have c41 := bx4.cell 1; simp at c40 c41)
    | (go_at_call 13; refine (H5.out _).mono ?_; rintro e w5 ⟨rfl, hb5⟩; have bx5 := bx4.call hb5; have br5 := br4.call hb5; have hS5 := Lib.hid (hS4.out.call hb5); have c50 := bx5.cell 0; have c51 := bx5.cell 1; simp at c50 c51)
    | (go_at_call 14; refine (H6.out _ hS5.out.l hS5.out.b).mono ?_; rintro e w6 ⟨rfl, hb6⟩; have br6 := br5.call hb6; have hS6 := Lib.hid (hS5.out.call hb6); have e2 := br6.cell 2; have e3 := br6.cell 3; have e4 := br6.cell 4; simp at e2 e3 e4)
    | (go_at_call 15; refine (H7.out _ hS6.out.l hS6.out.b).mono ?_; rintro e w7 ⟨rfl, hb7⟩))
  go_ret
  exact ⟨rfl, (hS6.out.call hb7).k⟩
set_option maxHeartbeats 1000000 in
theorem named_true (S : ByteArray) (B : Nat) (w : World) (hL : Laid5 B w) (hB : B ≤ w.heap.size) :
    Calls Tryd.prog 4 #[.string S] w (RetV (.bool true) w) := by
  have hS := Lib.hid (S5.start hL hB)
  have h1 := fun w h1 h2 => pNamed S B w h1 h2
  have h2 := fun w => rNamed S w
  unfold instR at h1 h2
  generalize (namedI S.data.toList).isSome = ok at *
  generalize (namedI S.data.toList).getD irow0 = r at *
  have hE := instEq_same r.fn r.arg
  have H1 := Lib.hid h1
  have H2 := Lib.hid h2
  have H7 := Lib.hid (fun w h1 h2 => awake_yes B w h1 h2)
  clear h1 h2 hL hB
  go_enter Tryd.func4, Tryd.ntmps4
  go_upto_region 2 with (go_at_call 16; refine (H1.out _ hS.out.l hS.out.b).mono ?_; rintro e w1 ⟨rfl, hb1⟩)
  have bx := Blk.new w1 23 #[.int .u8 r.fn, .int .i32 r.arg]
  have hS1 := Lib.hid ((hS.out.call hb1).alloc (.cells #[.int .u8 r.fn, .int .i32 r.arg] 23))
  obtain ⟨g, hg⟩ : ∃ g, w1.heap.size = g := ⟨_, rfl⟩
  rw [hg] at bx ⊢
  generalize w1.alloc (.cells #[.int .u8 r.fn, .int .i32 r.arg] 23) = W1 at *
  clear hb1 hg hS
  go_upto_region 3 with (go_at_call 17; refine (H2.out _).mono ?_; rintro e w2 ⟨rfl, hb2⟩)
  have bx2 := (bx.call hb2).alloc (.cells #[.int .u8 r.fn, .int .i32 r.arg] 23)
  have by2 := Blk.new w2 23 #[.int .u8 r.fn, .int .i32 r.arg]
  have hS2 := Lib.hid ((hS1.out.call hb2).alloc (.cells #[.int .u8 r.fn, .int .i32 r.arg] 23))
  obtain ⟨g2, hg⟩ : ∃ g, w2.heap.size = g := ⟨_, rfl⟩
  rw [hg] at by2 ⊢
  generalize w2.alloc (.cells #[.int .u8 r.fn, .int .i32 r.arg] 23) = W2 at *
  clear hb2 hg hS1 bx
  have c10 := bx2.cell 0
  have c11 := bx2.cell 1
  simp at c10 c11
  have c20 := by2.cell 0
  have c21 := by2.cell 1
  simp at c20 c21
  go_wp2_with (go_at_call 15; refine (H7.out _ hS2.out.l hS2.out.b).mono ?_; rintro e w7 ⟨rfl, hb7⟩)
  go_ret
  exact ⟨rfl, (hS2.out.call hb7).k⟩
set_option maxHeartbeats 1000000 in
theorem read_true (S : ByteArray) (hs : S.size ≤ 281474976710656) (B : Nat) (w : World) (hL : Laid5 B w) (hB : B ≤ w.heap.size) :
    Calls Tryd.prog 5 #[.string S] w (RetV (.bool true) w) := by
  have hS := Lib.hid (S5.start hL hB)
  have h1 := fun w h1 h2 => pRead S hs B w h1 h2
  have h2 := fun w => rReadI S w (by omega)
  unfold readIV at h1 h2
  generalize readI S.data.toList = R at *
  obtain ⟨fn, arg, te⟩ := R
  simp only at h1 h2
  have hE := instEq_same fn arg
  have H1 := Lib.hid h1
  have H2 := Lib.hid h2
  have H7 := Lib.hid (fun w h1 h2 => awake_yes B w h1 h2)
  clear h1 h2 hL hB
  go_enter Tryd.func5, Tryd.ntmps5
  go_upto_region 2 with (go_at_call 18; refine (H1.out _ hS.out.l hS.out.b).mono ?_; rintro e w1 ⟨rfl, hb1⟩)
  have bx := Blk.new w1 23 #[.int .u8 fn, .int .i32 arg]
  have hS1 := Lib.hid ((hS.out.call hb1).alloc (.cells #[.int .u8 fn, .int .i32 arg] 23))
  obtain ⟨g, hg⟩ : ∃ g, w1.heap.size = g := ⟨_, rfl⟩
  rw [hg] at bx ⊢
  generalize w1.alloc (.cells #[.int .u8 fn, .int .i32 arg] 23) = W1 at *
  clear hb1 hg hS
  go_upto_region 3 with (go_at_call 19; refine (H2.out _).mono ?_; rintro e w2 ⟨rfl, hb2⟩)
  have bx2 := (bx.call hb2).alloc (.cells #[.int .u8 fn, .int .i32 arg] 23)
  have by2 := Blk.new w2 23 #[.int .u8 fn, .int .i32 arg]
  have hS2 := Lib.hid ((hS1.out.call hb2).alloc (.cells #[.int .u8 fn, .int .i32 arg] 23))
  obtain ⟨g2, hg⟩ : ∃ g, w2.heap.size = g := ⟨_, rfl⟩
  rw [hg] at by2 ⊢
  generalize w2.alloc (.cells #[.int .u8 fn, .int .i32 arg] 23) = W2 at *
  clear hb2 hg hS1 bx
  have c10 := bx2.cell 0
  have c11 := bx2.cell 1
  simp at c10 c11
  have c20 := by2.cell 0
  have c21 := by2.cell 1
  simp at c20 c21
  go_wp2_with (go_at_call 15; refine (H7.out _ hS2.out.l hS2.out.b).mono ?_; rintro e w7 ⟨rfl, hb7⟩)
  go_ret
  exact ⟨rfl, (hS2.out.call hb7).k⟩
end Go.Proofs.YtibflkphkjacnaaDoor
