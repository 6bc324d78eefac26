
/- The law InstrHex: both forms of an operand are read as the same. -/
import Derived.Test.YtibflkphkjacnaaDoorJ8
namespace Go.Proofs.YtibflkphkjacnaaDoor
open Go.RowKit
set_option linter.unusedVariables false
set_option linter.unusedSimpArgs false

theorem read_forms {r : IRow} (hm : r ∈ tabF ++ tabO) (h : r.fn ≠ 15) {arg : Int} (ha : is32 arg) (g : Bool) :
    readIV (strB (r.name ++ 32 :: textL arg g)).data.toList = .tuple #[.agg #[.int .u8 r.fn, .int .i32 arg], .int .i64 0] := by
  have e : (strB (r.name ++ 32 :: textL arg g)).data.toList = r.name ++ 32 :: textL arg g := by simp [strB]
  rw [e, readIV, read_text2 hm h ha]
set_option maxRecDepth 100000 in
set_option maxHeartbeats 2000000 in
theorem hex_true (a b : Int) (ha : 0 ≤ a ∧ a ≤ 255) (hb : is32 b) (B : Nat) (w : World) (hL : Laid5 B w) (hB : B ≤ w.heap.size) :
    Calls Tryd.prog 8 #[.agg #[.int .u8 a, .int .i32 b]] w (RetV (.bool true) w) := by
  have hS := Lib.hid ((S5.start hL hB).alloc (.cells #[.int .u8 a, .int .i32 b] 23))
  have bx := Blk.new w 23 #[.int .u8 a, .int .i32 b]
  have h3 := fun w h1 h2 => pName a b ha B w h1 h2
  have H7 := Lib.hid (fun w h1 h2 => awake_yes B w h1 h2)
  unfold nameP at h3
  clear hL hB
  by_cases hno : findI a b = none ∨ a = 15
  · obtain ⟨ok, hok⟩ : ∃ ok, (findI a b).isSome = ok := ⟨_, rfl⟩
    have hcase : ok = false ∨ ((a == 15) = true ∧ ok = true) := by
      rcases hno with h | h
      · left; rw [← hok, h]; rfl
      · cases ok with
        | false => exact .inl rfl
        | true => exact .inr ⟨by rw [h]; rfl, rfl⟩
    rw [hok] at h3
    generalize strB ((findI a b).getD irow0).name = NM at *
    have H3 := Lib.hid h3
    clear h3 hok hno
    rcases hcase with rfl | ⟨h15, rfl⟩
    all_goals
      go_enter Tryd.func8, Tryd.ntmps8
      go_upto_region 1 with (fail)
      generalize w.alloc (.cells #[.int .u8 a, .int .i32 b] 23) = W0 at *
      have c00 := bx.cell 0
      have c01 := bx.cell 1
      simp at c00 c01
      go_wp2_with (first
        | (go_at_call 10; refine (H3.out _ hS.out.l hS.out.b).mono ?_; rintro e w4 ⟨rfl, hb4⟩; have bx4 := bx.call hb4; have hS4 := Lib.hid (hS.out.call hb4); have c40 := bx4.cell 0; have c41 := bx4.cell 1; simp at c40 c41; clear hb4 hS)
        | (go_at_call 15; refine (H7.out _ hS4.out.l hS4.out.b).mono ?_; rintro e w7 ⟨rfl, hb7⟩))
      go_ret
      exact ⟨rfl, (hS4.out.call hb7).k⟩
  · simp only [not_or] at hno
    obtain ⟨h1, h15⟩ := hno
    obtain ⟨r, hF⟩ : ∃ r, findI a b = some r := Option.ne_none_iff_exists'.1 h1
    obtain ⟨hm, hc⟩ := findI_some hF
    have hra : (r.fn : Int) = a := by rcases hc with ⟨h, _⟩ | ⟨_, h, _⟩; exact absurd h h15; exact h
    have hrn : r.fn ≠ 15 := fun h => h15 (by rw [← hra, h]; rfl)
    obtain ⟨-, -, hn12⟩ := row_ok hm
    have hnm : (strB r.name).size ≤ 12 := by rw [strB_size]; exact hn12
    have h4 := fun g w h => wText B b g w hb h
    have hT : ∀ g, (strB (textL b g)).size ≤ 11 := fun g => textS_size b g hb
    have h6 : ∀ g w, Laid5 B w → B ≤ w.heap.size → Calls Tryd.prog 18 #[.string (strB r.name ++ ⟨#[32]⟩ ++ strB (textL b g))] w (RetV (.tuple #[.agg #[.int .u8 a, .int .i32 b], .int .i64 0]) w) := fun g w h1 h2 => by
      rw [strB_sp]
      have h := pRead (strB (r.name ++ 32 :: textL b g)) (by
        have := hT g
        rw [strB_size] at this ⊢
        simp only [List.length_append, List.length_cons]; omega) B w h1 h2
      rw [read_forms hm hrn hb, hra] at h
      exact h
    have h15b : (a == 15) = false := by simpa using h15
    have hE := instEq_same a b
    rw [hF] at h3
    simp only [Option.getD_some, Option.isSome_some] at h3
    have hTf := hT false
    have hTt := hT true
    have h4f := h4 false
    have h4t := h4 true
    have h6f := h6 false
    have h6t := h6 true
    clear h1 h4 h6 hT
    generalize strB (textL b false) = Tf at *
    generalize strB (textL b true) = Tt at *
    generalize strB r.name = NM at *
    have H3 := Lib.hid h3
    have H4f := Lib.hid h4f
    have H4t := Lib.hid h4t
    have H6f := Lib.hid h6f
    have H6t := Lib.hid h6t
    clear h3 h4f h4t h6f h6t h15 hF hm hc hra hrn hn12
    go_enter Tryd.func8, Tryd.ntmps8
    go_upto_region 1 with (fail)
    generalize w.alloc (.cells #[.int .u8 a, .int .i32 b] 23) = W0 at *
    have c00 := bx.cell 0
    have c01 := bx.cell 1
    simp at c00 c01
    go_upto_region 5 with (first
      | (go_at_call 10; refine (H3.out _ hS.out.l hS.out.b).mono ?_; rintro e w4 ⟨rfl, hb4⟩; have bx4 := bx.call hb4; have hS4 := Lib.hid (hS.out.call hb4); have c40 := bx4.cell 0; have c41 := bx4.cell 1; simp at c40 c41; clear hb4 hS)
      | (go_at_call 20; refine (H4f.out _ hS4.out.l.1).mono ?_; rintro e w5 ⟨rfl, hb5⟩; have bx5 := bx4.call hb5; have hS5 := Lib.hid (hS4.out.call hb5); clear hb5 hS4)
      | (go_at_call 18; refine (H6f.out _ hS5.out.l hS5.out.b).mono ?_; rintro e w6 ⟨rfl, hb6⟩))
    have bx6 := (bx5.call hb6).alloc (.cells #[.int .u8 a, .int .i32 b] 23)
    have by6 := Blk.new w6 23 #[.int .u8 a, .int .i32 b]
    have hS6 := Lib.hid ((hS5.out.call hb6).alloc (.cells #[.int .u8 a, .int .i32 b] 23))
    obtain ⟨g, hg⟩ : ∃ g, w6.heap.size = g := ⟨_, rfl⟩
    rw [hg] at by6 ⊢
    generalize w6.alloc (.cells #[.int .u8 a, .int .i32 b] 23) = W6 at *
    clear hb6 hg hS5 c40 c41 bx4 bx5 bx c00 c01
    have c60 := bx6.cell 0
    have c61 := bx6.cell 1
    simp at c60 c61
    go_upto_region 6 with (first
      | (go_at_call 20; refine (H4t.out _ hS6.out.l.1).mono ?_; rintro e w7 ⟨rfl, hb7⟩; have bx7 := bx6.call hb7; have by7 := by6.call hb7; have hS7 := Lib.hid (hS6.out.call hb7); clear hb7 hS6)
      | (go_at_call 18; refine (H6t.out _ hS7.out.l hS7.out.b).mono ?_; rintro e w8 ⟨rfl, hb8⟩))
    have bx8 := (bx7.call hb8).alloc (.cells #[.int .u8 a, .int .i32 b] 23)
    have by8 := (by7.call hb8).alloc (.cells #[.int .u8 a, .int .i32 b] 23)
    have bz8 := Blk.new w8 23 #[.int .u8 a, .int .i32 b]
    have hS8 := Lib.hid ((hS7.out.call hb8).alloc (.cells #[.int .u8 a, .int .i32 b] 23))
    obtain ⟨g2, hg⟩ : ∃ g, w8.heap.size = g := ⟨_, rfl⟩
    rw [hg] at bz8 ⊢
    generalize w8.alloc (.cells #[.int .u8 a, .int .i32 b] 23) = W8 at *
    clear hb8 hg hS7 c60 c61 bx6 bx7 by6 by7
    have c80 := bx8.cell 0
    have c81 := bx8.cell 1
    simp at c80 c81
    have d80 := by8.cell 0
    have d81 := by8.cell 1
    simp at d80 d81
    have e80 := bz8.cell 0
    have e81 := bz8.cell 1
    simp at e80 e81
    go_wp2_with (go_at_call 15; refine (H7.out _ hS8.out.l hS8.out.b).mono ?_; rintro e w9 ⟨rfl, hb9⟩)
    go_ret
    exact ⟨rfl, (hS8.out.call hb9).k⟩
end Go.Proofs.YtibflkphkjacnaaDoor
