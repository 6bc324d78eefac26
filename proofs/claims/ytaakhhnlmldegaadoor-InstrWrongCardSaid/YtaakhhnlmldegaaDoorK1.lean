
/- The laws InstrNames and InstrWrong, walked. -/
import Derived.Test.YtaakhhnlmldegaaDoorJ8
import Derived.Test.YtaakhhnlmldegaaDoorK0
import Derived.Shelf.Strings.OnBuilder
import Derived.Shelf.Strings.Replace
import Derived.Shelf.Strings.Search3
import Derived.Lib.SplitLaws
namespace Go.Proofs.YtaakhhnlmldegaaDoor
open Go.RowKit Go.Shelf

theorem strB_list (l : List UInt8) : (strB l).data.toList = l := by simp [strB]
theorem size_le_of {l : List UInt8} (h : l.length ≤ 100) : (strB l).size ≤ 281474976710656 := by rw [strB_size]; omega
theorem low_call {r : IRow} (hm : r ∈ tabF ++ tabO) (w : World) : Calls Tryd.prog 8 #[.string (strB r.name)] w (RetV (.string (strB r.name)) w) := by
  have h := Any.strings_ToLower_ascii Tryd.lays159 Tryd.Builder_Extra_159 (strB r.name) w (by rw [strB_size]; have := (row_ok hm).2.2; omega)
    (fun j b hb => by rw [strB_list] at hb; exact name_ascii r hm b (List.mem_of_getElem? hb))
  rw [strB_list, (case_names r hm).1] at h
  exact h
theorem up_call {r : IRow} (hm : r ∈ tabF ++ tabO) (w : World) : Calls Tryd.prog 12 #[.string (strB r.name)] w (RetV (.string (strB (r.name.map upB))) w) := by
  have h := Any.strings_ToUpper_ascii Tryd.lays158 Tryd.Builder_Extra_158 (strB r.name) w (by rw [strB_size]; have := (row_ok hm).2.2; omega)
    (fun j b hb => by rw [strB_list] at hb; exact name_ascii r hm b (List.mem_of_getElem? hb))
  rw [strB_list, (case_names r hm).2.2] at h
  exact h
theorem has_call {r : IRow} (hm : r ∈ tabF ++ tabO) (w : World) : Calls Tryd.prog 9 #[.string (strB r.name), .string ⟨#[32]⟩] w (RetQ (.bool false) w) := by
  have h := Any.strings_Contains_one Tryd.lays144 (strB r.name) 32 w
  rw [strB_list, (case_names r hm).2.1] at h
  exact h.mono fun e w' ⟨h1, h2⟩ => ⟨h1, h2.symm⟩
/-- The library's own variable MaxLen holds some number. -/
def MaxAt (B : Nat) (w : World) : Prop := ∃ m : Int, ∀ w', Below B w w' → w'.cell? ⟨3, 0, none⟩ = some (.int .i64 m)
theorem MaxAt.on {B : Nat} {w w1 : World} (h : MaxAt B w) (hb : Below B w w1) : MaxAt B w1 := by
  obtain ⟨m, hm⟩ := h
  exact ⟨m, fun w' h' => hm w' (hb.trans h')⟩
theorem rep_call {r : IRow} (hm : r ∈ tabF ++ tabO) {b : Int} (hb : is32 b) (B : Nat) (w : World) (hM : MaxAt B w) :
    Calls Tryd.prog 14 #[.string (strB (r.name ++ 32 :: textL b false)), .string ⟨#[32]⟩, .string ⟨#[32, 32]⟩, .int .i64 1] w (RetV (.string (strB (r.name ++ 32 :: 32 :: textL b false))) w) := by
  obtain ⟨m, hm2⟩ := hM
  have hl := (textL_len (g := false) hb).2
  have hn := (row_ok hm).2.2
  have hs : (strB (r.name ++ 32 :: textL b false)).size ≤ 30 := by
    rw [strB_size]; simp only [List.length_append, List.length_cons]; omega
  have hc := Lib.countB_le ⟨#[32]⟩ (by decide) _ (strB (r.name ++ 32 :: textL b false)) (Nat.le_refl _)
  have h2 : (⟨#[32, 32]⟩ : ByteArray).size = 2 := rfl
  have h := Any.strings_Replace Tryd.lays154 Tryd.Builder_Extra_154 (strB (r.name ++ 32 :: textL b false)) ⟨#[32]⟩ ⟨#[32, 32]⟩ 1 m w (by omega) (hm2 w (Below.refl _ _)) (by decide) (by rw [h2]; omega)
  have e := rep_text (textL b false) (row_ok hm).2.1
  rw [strB_list] at h
  have e1 : (⟨#[32]⟩ : ByteArray).data.toList = [32] := rfl
  have e2 : (⟨#[32, 32]⟩ : ByteArray).data.toList = [32, 32] := rfl
  rw [e1, e2, e] at h
  exact h
theorem S5.set {B : Nat} {w0 w : World} (h : S5 B w0 w) (hB : B ≤ w0.heap.size) {p : Addr} (hp : w0.heap.size ≤ p.block) (v : Value) : S5 B w0 (w.setCell p v) :=
  ⟨h.l.on ((Below.refl B w).setCell (by omega) v), by simpa using h.b, h.k.setCell hp v⟩

set_option maxRecDepth 100000 in
set_option maxHeartbeats 2000000 in
theorem names_true (a b : Int) (ha : 0 ≤ a ∧ a ≤ 255) (hb : is32 b) (B : Nat) (w : World) (hL : Laid5 B w) (hB : B ≤ w.heap.size) :
    Calls Tryd.prog 3 #[.agg #[.int .u8 a, .int .i32 b]] w (RetV (.bool true) w) := by
  have hS := Lib.hid ((S5.start hL hB).alloc (.cells #[.int .u8 a, .int .i32 b] 23))
  have bx := Blk.new w 23 #[.int .u8 a, .int .i32 b]
  have kB : Below w.heap.size w (w.alloc (.cells #[.int .u8 a, .int .i32 b] 23)) := (Below.refl _ _).alloc (Nat.le_refl _) _
  have h3 := fun w h1 h2 => pName a b ha B w h1 h2
  have H7 := Lib.hid (fun w h1 h2 => awake_yes B w h1 h2)
  unfold nameP at h3
  clear hL
  cases hF : findI a b with
  | none =>
    rw [hF] at h3
    simp only [Option.getD_none, Option.isSome_none] at h3
    have e1 : strB irow0.name = ⟨#[]⟩ := rfl
    rw [e1] at h3
    have H3 := Lib.hid h3
    clear h3 hF e1
    go_enter Tryd.func3, Tryd.ntmps3
    go_upto_region 1 with (fail)
    generalize w.alloc (.cells #[.int .u8 a, .int .i32 b] 23) = W0 at *
    have c00 := bx.cell 0
    have c01 := bx.cell 1
    simp at c00 c01
    go_wp2_with (first
      | (go_at_call 5; refine (H3.out _ hS.out.l hS.out.b).mono ?_; rintro e w4 ⟨rfl, hb4⟩; have hS4 := Lib.hid (hS.out.call hb4); clear hb4)
      | (go_at_call 6; refine (H7.out _ hS4.out.l hS4.out.b).mono ?_; rintro e w7 ⟨rfl, hb7⟩))
    go_ret
    exact ⟨rfl, (hS4.out.call hb7).k⟩
  | some r =>
    obtain ⟨hm, hc⟩ := findI_some hF
    rw [hF] at h3
    simp only [Option.getD_some, Option.isSome_some] at h3
    have h4 := fun w h1 h2 => pNamed (strB r.name) B w h1 h2
    rw [strB_list, named_of hm] at h4
    unfold instR at h4
    simp only [Option.getD_some, Option.isSome_some] at h4
    have hfi : findI (r.fn : Int) (r.arg : Int) = some r := find_of_named (named_of hm)
    have hr15 : r.fn ≤ 15 := by rcases row_15 hm with h | h <;> omega
    have h5 := fun w h1 h2 => pName (r.fn : Int) (r.arg : Int) (by omega) B w h1 h2
    unfold nameP at h5
    rw [hfi] at h5
    simp only [Option.getD_some, Option.isSome_some] at h5
    have h6 := fun w => low_call hm w
    have h8 := fun w => has_call hm w
    have hcase : ((a != 15) = false ∧ instEq (r.fn : Int) (r.arg : Int) a b = true) ∨ ((a != 15) = true ∧ instEq (r.fn : Int) (r.arg : Int) a 0 = true) := by
      rcases hc with ⟨h1, h2, h3⟩ | ⟨h1, h2, h3⟩
      · left; refine ⟨by simp [h1], ?_⟩
        simp only [instEq, decide_eq_true_eq]; omega
      · right; refine ⟨by simp [h1], ?_⟩
        simp only [instEq, decide_eq_true_eq]; omega
    generalize strB r.name = NM at *
    generalize hfr : ((r.fn : Nat) : Int) = fr at *
    generalize har : ((r.arg : Nat) : Int) = ar at *
    have H3 := Lib.hid h3
    have H4 := Lib.hid h4
    have H5 := Lib.hid h5
    have H6 := Lib.hid h6
    have H8 := Lib.hid h8
    clear h3 h4 h5 h6 h8 hF hm hc hfi hr15 hfr har
    rcases hcase with ⟨h15, hE⟩ | ⟨h15, hE⟩
    all_goals
      go_enter Tryd.func3, Tryd.ntmps3
      go_upto_region 1 with (fail)
      generalize w.alloc (.cells #[.int .u8 a, .int .i32 b] 23) = W0 at *
      have c00 := bx.cell 0
      have c01 := bx.cell 1
      simp at c00 c01
      go_upto_region 5 with (first
        | (go_at_call 5; refine (H3.out _ hS.out.l hS.out.b).mono ?_; rintro e w4 ⟨rfl, hb4⟩; have bx4 := bx.call hb4; have hS4 := Lib.hid (hS.out.call hb4); clear hb4)
        | (go_at_call 7; refine (H4.out _ hS4.out.l hS4.out.b).mono ?_; rintro e w5 ⟨rfl, hb5⟩))
      have bx5 := (bx4.call hb5).alloc (.cells #[.int .u8 fr, .int .i32 ar] 23)
      have by5 := Blk.new w5 23 #[.int .u8 fr, .int .i32 ar]
      have hS5 := Lib.hid ((hS4.out.call hb5).alloc (.cells #[.int .u8 fr, .int .i32 ar] 23))
      obtain ⟨g, hg⟩ : ∃ g, w5.heap.size = g := ⟨_, rfl⟩
      have hgl := (bx4.call hb5).lt
      rw [hg] at by5 hgl ⊢
      generalize w5.alloc (.cells #[.int .u8 fr, .int .i32 ar] 23) = W5 at *
      clear hb5 hg hS4 c00 c01 bx4 bx
      have c50 := bx5.cell 0
      have c51 := bx5.cell 1
      simp at c50 c51
      have d50 := by5.cell 0
      have d51 := by5.cell 1
      simp at d50 d51
      go_upto_region 8 with (first
        | (go_at_call 5; refine (H5.out _ hS5.out.l hS5.out.b).mono ?_; rintro e w6 ⟨rfl, hb6⟩; have bx6 := bx5.call hb6; have by6 := by5.call hb6; have hS6 := Lib.hid (hS5.out.call hb6); have c60 := bx6.cell 0; have c61 := bx6.cell 1; have d60 := by6.cell 0; have d61 := by6.cell 1; have f61 := bx6.frozen 1; simp at c60 c61 d60 d61; clear hb6 hS5))
      have hS7 : Hid (S5 B w w6) := hS6
      have hSs : Hid (S5 B w (w6.setCell ⟨w.heap.size, 1, none⟩ (.int .i32 0))) := Lib.hid (hS6.out.set hB (Nat.le_refl _) _)
      go_wp2_with (first
        | (go_at_call 8; refine (H6.out _).mono ?_; rintro e w7 ⟨rfl, hb7⟩; (first | have hS9 := Lib.hid (hS7.out.call hb7) | have hS9 := Lib.hid (hSs.out.call hb7)); clear hb7)
        | (go_at_call 9; refine (H8.out _).mono ?_; rintro e w8 ⟨rfl, rfl⟩)
        | (go_at_call 6; refine (H7.out _ hS9.out.l hS9.out.b).mono ?_; rintro e w9 ⟨rfl, hb9⟩))
      go_ret
      exact ⟨rfl, (hS9.out.call hb9).k⟩
set_option maxRecDepth 100000 in
set_option maxHeartbeats 2000000 in
theorem wrong_true (a b c : Int) (ha : 0 ≤ a ∧ a ≤ 255) (hb : is32 b) (hc : is32 c) (B : Nat) (w : World) (hL : Laid5 B w) (hB : B ≤ w.heap.size) (hM : MaxAt B w) :
    Calls Tryd.prog 4 #[.agg #[.int .u8 a, .int .i32 b], .int .i32 c] w (RetV (.bool true) w) := by
  have k0 : Below w.heap.size w (w.alloc (.cells #[.int .u8 a, .int .i32 b] 23)) := (Below.refl _ _).alloc (Nat.le_refl _) _
  have hS := Lib.hid ((S5.start hL hB).alloc (.cells #[.int .u8 a, .int .i32 b] 23))
  have HM := Lib.hid hM
  have bx := Blk.new w 23 #[.int .u8 a, .int .i32 b]
  have h1 := fun w h1 h2 => pText a b ha hb B w h1 h2
  have h3 := fun w h1 h2 => pName a b ha B w h1 h2
  have H7 := Lib.hid (fun w h1 h2 => awake_yes B w h1 h2)
  unfold textV at h1
  unfold nameP at h3
  clear hL
  cases hF : findI a b with
  | none =>
    rw [textI_none hF] at h1
    have H1 := Lib.hid h1
    clear h1 h3 hF
    go_enter Tryd.func4, Tryd.ntmps4
    go_upto_region 1 with (fail)
    generalize w.alloc (.cells #[.int .u8 a, .int .i32 b] 23) = W0 at *
    have c00 := bx.cell 0
    have c01 := bx.cell 1
    simp at c00 c01
    go_wp2_with (first
      | (go_at_call 10; refine (H1.out _ hS.out.l hS.out.b).mono ?_; rintro e w4 ⟨rfl, hb4⟩; have hS4 := Lib.hid (hS.out.call hb4); clear hb4)
      | (go_at_call 6; refine (H7.out _ hS4.out.l hS4.out.b).mono ?_; rintro e w7 ⟨rfl, hb7⟩))
    go_ret
    exact ⟨rfl, (hS4.out.call hb7).k⟩
  | some r =>
    have ht0 := text_err hF
    obtain ⟨hm, hcc⟩ := findI_some hF
    obtain ⟨hne, hsp, hn12⟩ := row_ok hm
    have hT1 : (strB (textI a b).1).size ≤ 30 := by
      have h := textL_len (g := false) hb
      rw [strB_size]
      unfold textI; rw [hF]
      simp only
      split
      · omega
      · simp only [List.length_append, List.length_cons]; omega
    have hNs : (strB r.name).size ≤ 12 := by rw [strB_size]; exact hn12
    have hCs := textS_size c false hc
    rw [ht0] at h1
    rw [hF] at h3
    simp only [Option.getD_some, Option.isSome_some] at h3
    have cat1 : ∀ l : List UInt8, (⟨#[32]⟩ : ByteArray) ++ strB l = strB (32 :: l) := fun l => by apply ByteArray.ext; simp [strB]
    have cat2 : ∀ l : List UInt8, strB l ++ (⟨#[32]⟩ : ByteArray) = strB (l ++ [32]) := fun l => by apply ByteArray.ext; simp [strB]
    have f1 : ∀ w, Laid5 B w → B ≤ w.heap.size → Calls Tryd.prog 11 #[.string (⟨#[32]⟩ ++ strB (textI a b).1), .int .i64 50] w (RetV (.bool true) w) := fun w h1 h2 => by
      rw [cat1]
      exact fails_yes _ 50 (by rw [strB_size] at hT1 ⊢; simp only [List.length_cons]; omega) (by rw [strB_list]; exact read_front _) B w h1 h2
    have f2 : ∀ w, Laid5 B w → B ≤ w.heap.size → Calls Tryd.prog 11 #[.string (strB (textI a b).1 ++ ⟨#[32]⟩), .int .i64 5] w (RetV (.bool true) w) := fun w h1 h2 => by
      rw [cat2]
      exact fails_yes _ 5 (by rw [strB_size] at hT1 ⊢; simp only [List.length_append, List.length_cons, List.length_nil]; omega) (by rw [strB_list]; exact read_behind ht0) B w h1 h2
    have f3 := fun w h1 h2 => fails_yes (strB (r.name.map upB)) 50 (by rw [strB_size, List.length_map]; omega) (by rw [strB_list]; exact read_upper hm) B w h1 h2
    have u1 := fun w => up_call hm w
    by_cases h15 : a = 15
    · have hr15 : r.fn = 15 := by rcases hcc with ⟨_, h, _⟩ | ⟨h, _, _⟩; exact h; exact absurd h15 h
      have t15 : (a == 15) = true := by rw [h15]; rfl
      have hw := fun w h => wText B c false w hc h
      have f4 : ∀ w, Laid5 B w → B ≤ w.heap.size → Calls Tryd.prog 11 #[.string (strB r.name ++ ⟨#[32]⟩ ++ strB (textL c false)), .int .i64 5] w (RetV (.bool true) w) := fun w h1 h2 => by
        rw [strB_sp]
        exact fails_yes _ 5 (by rw [strB_size] at hCs ⊢; simp only [List.length_append, List.length_cons]; omega) (by rw [strB_list, read_name hm, if_pos hr15]) B w h1 h2
      generalize strB (textI a b).1 = T1 at *
      generalize strB (r.name.map upB) = UP at *
      generalize strB r.name = NM at *
      generalize strB (textL c false) = TC at *
      have H1 := Lib.hid h1
      have H3 := Lib.hid h3
      have F1 := Lib.hid f1
      have F2 := Lib.hid f2
      have F3 := Lib.hid f3
      have F4 := Lib.hid f4
      have U1 := Lib.hid u1
      have HW := Lib.hid hw
      have z1 : ¬ 9223372036854775807 < 1 + T1.size := by omega
      have z2 : ¬ 9223372036854775807 < T1.size + 1 := by omega
      have z3 : ¬ 9223372036854775807 < NM.size + 1 := by omega
      have z4 : ¬ 9223372036854775807 < NM.size + 1 + TC.size := by omega
      clear h1 h3 f1 f2 f3 f4 u1 hw hF hm hcc hne hsp hn12 h15 hr15 ht0 cat1 cat2
      go_enter Tryd.func4, Tryd.ntmps4
      go_upto_region 1 with (fail)
      generalize w.alloc (.cells #[.int .u8 a, .int .i32 b] 23) = W0 at *
      have c00 := bx.cell 0
      have c01 := bx.cell 1
      simp at c00 c01
      go_upto_region 7 with (first
        | (go_at_call 10; refine (H1.out _ hS.out.l hS.out.b).mono ?_; rintro e w4 ⟨rfl, hb4⟩; have hS4 := Lib.hid (hS.out.call hb4); have bx4 := bx.call hb4; have c40 := bx4.cell 0; have c41 := bx4.cell 1; simp at c40 c41; clear hb4)
        | (go_at_call 5; refine (H3.out _ hS4.out.l hS4.out.b).mono ?_; rintro e w5 ⟨rfl, hb5⟩; have hS5 := Lib.hid (hS4.out.call hb5); have bx5 := bx4.call hb5; clear hb5)
        | (go_at_call 12; refine (U1.out _).mono ?_; rintro e w8 ⟨rfl, hb8⟩; have hS8 := Lib.hid (hS7.out.call hb8); have bx8 := bx7.call hb8; clear hb8)
        | (go_at_call 11; (with_reducible refine (F1.out _ hS5.out.l hS5.out.b).mono ?_); rintro e w6 ⟨rfl, hb6⟩; have hS6 := Lib.hid (hS5.out.call hb6); have bx6 := bx5.call hb6; clear hb6)
        | (go_at_call 11; (with_reducible refine (F2.out _ hS6.out.l hS6.out.b).mono ?_); rintro e w7 ⟨rfl, hb7⟩; have hS7 := Lib.hid (hS6.out.call hb7); have bx7 := bx6.call hb7; clear hb7)
        | (go_at_call 11; (with_reducible refine (F3.out _ hS8.out.l hS8.out.b).mono ?_); rintro e w9 ⟨rfl, hb9⟩; have hS9 := Lib.hid (hS8.out.call hb9); have bx9 := bx8.call hb9; clear hb9))
      have c90 := bx9.cell 0
      have c91 := bx9.cell 1
      simp at c90 c91
      go_wp2_with (first
        | (go_at_call 13; refine (HW.out _ hS9.out.l.1).mono ?_; rintro e v1 ⟨rfl, hb1⟩; have hT1 := Lib.hid (hS9.out.call hb1); clear hb1)
        | (go_at_call 11; refine (F4.out _ hT1.out.l hT1.out.b).mono ?_; rintro e v2 ⟨rfl, hb2⟩; have hT2 := Lib.hid (hT1.out.call hb2); clear hb2)
        | (go_at_call 6; refine (H7.out _ hT2.out.l hT2.out.b).mono ?_; rintro e v3 ⟨rfl, hb3⟩))
      go_ret
      exact ⟨rfl, (hT2.out.call hb3).k⟩
    · have hr15 : r.fn ≠ 15 := by rcases hcc with ⟨h, _, _⟩ | ⟨_, h, _⟩; exact absurd h h15; intro e; apply h15; rw [← h, e]; rfl
      have t15 : (a == 15) = false := by simpa using h15
      have eT : (textI a b).1 = r.name ++ 32 :: textL b false := by rw [textI_fn hF h15]
      have u2 := fun w h => rep_call hm hb B w h
      rw [← eT] at u2
      have f4 := fun w h1 h2 => fails_yes (strB r.name) 5 (by omega) (by rw [strB_list, read_bare hm, if_neg hr15]) B w h1 h2
      have f5 := fun w h1 h2 => fails_yes (strB (r.name ++ 32 :: 32 :: textL b false)) 5 (by
        have h := textL_len (g := false) hb
        rw [strB_size]; simp only [List.length_append, List.length_cons]; omega) (by rw [strB_list]; exact read_double hm hr15 _) B w h1 h2
      generalize strB (r.name ++ 32 :: 32 :: textL b false) = RP at *
      generalize strB (textI a b).1 = T1 at *
      generalize strB (r.name.map upB) = UP at *
      generalize strB r.name = NM at *
      have H1 := Lib.hid h1
      have H3 := Lib.hid h3
      have F1 := Lib.hid f1
      have F2 := Lib.hid f2
      have F3 := Lib.hid f3
      have F4 := Lib.hid f4
      have F5 := Lib.hid f5
      have U1 := Lib.hid u1
      have U2 := Lib.hid u2
      have z1 : ¬ 9223372036854775807 < 1 + T1.size := by omega
      have z2 : ¬ 9223372036854775807 < T1.size + 1 := by omega
      have hMB : ∀ w', Below w.heap.size w w' → MaxAt B w' := fun w' h => hM.on (h.mono hB)
      have HMB := Lib.hid hMB
      clear h1 h3 f1 f2 f3 f4 f5 u1 u2 hF hm hcc hne hsp hn12 h15 hr15 ht0 cat1 cat2 eT hMB hM HM
      go_enter Tryd.func4, Tryd.ntmps4
      go_upto_region 1 with (fail)
      generalize w.alloc (.cells #[.int .u8 a, .int .i32 b] 23) = W0 at *
      have c00 := bx.cell 0
      have c01 := bx.cell 1
      simp at c00 c01
      go_upto_region 7 with (first
        | (go_at_call 10; refine (H1.out _ hS.out.l hS.out.b).mono ?_; rintro e w4 ⟨rfl, hb4⟩; have hS4 := Lib.hid (hS.out.call hb4); have bx4 := bx.call hb4; have c40 := bx4.cell 0; have c41 := bx4.cell 1; simp at c40 c41; clear hb4)
        | (go_at_call 5; refine (H3.out _ hS4.out.l hS4.out.b).mono ?_; rintro e w5 ⟨rfl, hb5⟩; have hS5 := Lib.hid (hS4.out.call hb5); have bx5 := bx4.call hb5; clear hb5)
        | (go_at_call 12; refine (U1.out _).mono ?_; rintro e w8 ⟨rfl, hb8⟩; have hS8 := Lib.hid (hS7.out.call hb8); have bx8 := bx7.call hb8; clear hb8)
        | (go_at_call 11; (with_reducible refine (F1.out _ hS5.out.l hS5.out.b).mono ?_); rintro e w6 ⟨rfl, hb6⟩; have hS6 := Lib.hid (hS5.out.call hb6); have bx6 := bx5.call hb6; clear hb6)
        | (go_at_call 11; (with_reducible refine (F2.out _ hS6.out.l hS6.out.b).mono ?_); rintro e w7 ⟨rfl, hb7⟩; have hS7 := Lib.hid (hS6.out.call hb7); have bx7 := bx6.call hb7; clear hb7)
        | (go_at_call 11; (with_reducible refine (F3.out _ hS8.out.l hS8.out.b).mono ?_); rintro e w9 ⟨rfl, hb9⟩; have hS9 := Lib.hid (hS8.out.call hb9); have bx9 := bx8.call hb9; clear hb9))
      have c90 := bx9.cell 0
      have c91 := bx9.cell 1
      simp at c90 c91
      go_wp2_with (first
        | (go_at_call 14; refine (U2.out _ (HMB.out _ hT1.out.k)).mono ?_; rintro e v2 ⟨rfl, hb2⟩; have hT2 := Lib.hid (hT1.out.call hb2); clear hb2)
        | (go_at_call 11; (with_reducible refine (F4.out _ hS9.out.l hS9.out.b).mono ?_); rintro e v1 ⟨rfl, hb1⟩; have hT1 := Lib.hid (hS9.out.call hb1); clear hb1)
        | (go_at_call 11; (with_reducible refine (F5.out _ hT2.out.l hT2.out.b).mono ?_); rintro e v3 ⟨rfl, hb3⟩; have hT3 := Lib.hid (hT2.out.call hb3); clear hb3)
        | (go_at_call 6; refine (H7.out _ hT3.out.l hT3.out.b).mono ?_; rintro e v4 ⟨rfl, hb4⟩))
      go_ret
      exact ⟨rfl, (hT3.out.call hb4).k⟩
end Go.Proofs.YtaakhhnlmldegaaDoor
