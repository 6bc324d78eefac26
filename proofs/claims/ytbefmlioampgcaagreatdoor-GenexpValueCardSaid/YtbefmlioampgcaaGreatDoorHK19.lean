/- Texts that belong together, joined: what each one holds is told ahead of it. -/
import Derived.Test.YtbefmlioampgcaaGreatDoorHK15
set_option linter.unusedVariables false
set_option linter.unusedSimpArgs false
/- The other operators with two operands, emitted: dyadic, walked. -/
namespace Go.Proofs.YtbefmlioampgcaaGreatDoor
open Go.RowKit
set_option linter.unusedVariables false
set_option linter.unusedSimpArgs false

set_option maxRecDepth 100000 in
set_option maxHeartbeats 4000000 in
theorem gDyadic (g : EmL) (bm base B : Nat) (e a b : KE) (hle : e.l = [a, b]) (hok : OkE e) (ho : ¬ (e.oper = 20 ∨ e.oper = 21)) (hca : CodeOk g bm base B a) (hcb : CodeOk g bm base B b)
    (t : Int) (ls : List LineL) (made : Nat) (w : World) (h0 : 0 ≤ t) (h1 : t + nodesE e ≤ 1000000) (h2 : ls.length + 8 * nodesE e ≤ 900000) (h3 : made + nodesE e ≤ 900000) (hi : e.In w B) (hL : LaidG B w) (hn : EnvIn g w B) (hB : B ≤ base)
    (h : Em g bm base ls made [] w) : Calls Tryz.prog 42 #[.pointer (some ⟨bm, 0, none⟩), .agg e.cells, .int .i32 t] w (RetEm g bm base (ls ++ (codeE g.env e t made).1) (codeE g.env e t made).2 [] w) := by
  obtain ⟨W0, hW0⟩ : ∃ W, w.alloc (.cells e.cells 27) = W := ⟨_, rfl⟩
  have K0 : Below w.heap.size w W0 := by rw [← hW0]; exact (Below.refl _ _).alloc (Nat.le_refl _) _
  have b0 : Blk W0 w.heap.size 27 e.cells := by rw [← hW0]; exact Blk.new _ _ _
  have hbs := h.base_le
  have hBw : B ≤ w.heap.size := Nat.le_trans hB hbs
  have hKE : EmK bm base w W0 := EmK.of_below K0 hbs
  have hE0 : Hid (EmS g bm base W0 ls made [] W0) := Lib.hid ⟨h.below K0, EmK.refl _ _ _⟩
  have hnb : ¬ w.heap.size = bm := by have := h.lt; omega
  have ma : a ∈ e.l := by rw [hle]; simp
  have mb : b ∈ e.l := by rw [hle]; simp
  have hi0 := hi.below (K0.mono hBw)
  have hL0 := hL.on (K0.mono hBw)
  have hn0 := hn.below (K0.mono hBw)
  have hnd := nodesE_2 hle
  have hpar := hi0.parts
  rw [hle] at hpar
  obtain ⟨q, off, hA, hqB, hcell⟩ := two_at hpar
  have hcode := codeE_2 g.env hle t made
  rw [if_neg ho] at hcode
  have hX : Hid (Blk W0 w.heap.size 27 e.cells) := Lib.hid b0
  have hop := (fieldsB_len hok.fields).2.2 (by rw [hle]; rfl)
  obtain ⟨ι, F, i0', h0', hFb, hcl⟩ := fam_below W0
  haveI : Nonempty ι := ⟨i0'⟩
  have hBW0 : B ≤ W0.heap.size := Nat.le_trans hBw K0.size
  have HDa : Hid (∀ i, Calls Tryz.prog 19 #[.agg a.cells] (F i) (RetV (.int .i64 (regsE a)) (F i))) := Lib.hid fun i => by
    have := dDepth a B (F i) ((hi0.part ma).below ((hFb i).mono hBW0)) (Nat.le_trans hBW0 (hFb i).size) hL0.2.2.1 (hL0.2.2.2.below ((hFb i).mono hBW0) hL0.2.2.1)
    rwa [(hok.part ma).depth] at this
  have HDb : Hid (∀ i, Calls Tryz.prog 19 #[.agg b.cells] (F i) (RetV (.int .i64 (regsE b)) (F i))) := Lib.hid fun i => by
    have := dDepth b B (F i) ((hi0.part mb).below ((hFb i).mono hBW0)) (Nat.le_trans hBW0 (hFb i).size) hL0.2.2.1 (hL0.2.2.2.below ((hFb i).mono hBW0) hL0.2.2.1)
    rwa [(hok.part mb).depth] at this
  have hra := regsE_le a
  have hrb := regsE_le b
  have CA : ∀ (t : Int) (L : List LineL) (m : Nat) W, 0 ≤ t → t + nodesE a ≤ 1000000 → L.length + 8 * nodesE a ≤ 900000 → m + nodesE a ≤ 900000 → EmS g bm base W0 L m [] W → Calls Tryz.prog 22 #[.pointer (some ⟨bm, 0, none⟩), .agg a.cells, .int .i32 t] W (RetSt g bm base W0 (L ++ (codeE g.env a t m).1) (codeE g.env a t m).2 [] (.tuple #[])) := fun t L m W q1 q2 q3 q4 hs =>
    codeS hca q1 q2 q3 q4 (hi0.part ma) hL0 hn0 hB hs
  have CB : ∀ (t : Int) (L : List LineL) (m : Nat) W, 0 ≤ t → t + nodesE b ≤ 1000000 → L.length + 8 * nodesE b ≤ 900000 → m + nodesE b ≤ 900000 → EmS g bm base W0 L m [] W → Calls Tryz.prog 22 #[.pointer (some ⟨bm, 0, none⟩), .agg b.cells, .int .i32 t] W (RetSt g bm base W0 (L ++ (codeE g.env b t m).1) (codeE g.env b t m).2 [] (.tuple #[])) := fun t L m W q1 q2 q3 q4 hs =>
    codeS hcb q1 q2 q3 q4 (hi0.part mb) hL0 hn0 hB hs
  have CO : Hid (∀ (L : List LineL) (m : Nat) W, L.length ≤ 900000 → EmS g bm base W0 L m [] W → Calls Tryz.prog 64 #[.pointer (some ⟨bm, 0, none⟩), .int .u8 e.oper] W (RetSt g bm base W0 (L ++ operL e.oper) m [] (.tuple #[]))) := Lib.hid fun L m W q1 hs =>
    operS hop.2.1 hop.2.2 (by omega) (by omega) q1 hs
  have LA := fun t n => code_len g.env a t n
  have LB := fun t n => code_len g.env b t n
  have hBB : ∀ W, EmS g bm base W0 ls made [] W → Below B W0 W := fun W hs => hs.bel.mono hB
  simp only [KE.cells] at CA CB HDa HDb b0 hW0 hX ⊢
  rw [hA, hle] at b0 hW0 hX ⊢
  simp only [List.length_cons, List.length_nil, Nat.zero_add] at b0 hW0 hX ⊢
  have x0 := b0.cell 0
  have x1 := b0.cell 1
  have x2 := b0.cell 2
  have x3 := b0.cell 3
  have x4 := b0.cell 4
  have x5 := b0.cell 5
  simp at x0 x1 x2 x3 x4 x5
  have HKE := Lib.hid hKE
  have HCL := Lib.hid hcell
  have HFB := Lib.hid hFb
  have hq0 : q < W0.heap.size := by have := K0.size; omega
  have hlt := b0.lt
  have F5 : ∀ i, (F i).cell? ⟨w.heap.size, 5, none⟩ = some (.slice (some ⟨q, off, none⟩) 2 e.c) := fun i => ((bcell (hFb i)).1 _ 5 hlt).trans x5
  obtain ⟨⟨p0, p1, p2, p3, p4, p5⟩, r0, r1, r2, r3, r4, r5⟩ := hcell W0 (Below.refl _ _)
  have P0 : ∀ i, (F i).cell? ⟨q, off, none⟩ = _ := fun i => ((bcell (hFb i)).1 _ _ hq0).trans p0
  have P1 : ∀ i, (F i).cell? ⟨q, off + 1, none⟩ = _ := fun i => ((bcell (hFb i)).1 _ _ hq0).trans p1
  have P2 : ∀ i, (F i).cell? ⟨q, off + 2, none⟩ = _ := fun i => ((bcell (hFb i)).1 _ _ hq0).trans p2
  have P3 : ∀ i, (F i).cell? ⟨q, off + 3, none⟩ = _ := fun i => ((bcell (hFb i)).1 _ _ hq0).trans p3
  have P4 : ∀ i, (F i).cell? ⟨q, off + 4, none⟩ = _ := fun i => ((bcell (hFb i)).1 _ _ hq0).trans p4
  have P5 : ∀ i, (F i).cell? ⟨q, off + 5, none⟩ = _ := fun i => ((bcell (hFb i)).1 _ _ hq0).trans p5
  have R0 : ∀ i, (F i).cell? ⟨q, off + 6, none⟩ = _ := fun i => ((bcell (hFb i)).1 _ _ hq0).trans r0
  have R1 : ∀ i, (F i).cell? ⟨q, off + 6 + 1, none⟩ = _ := fun i => ((bcell (hFb i)).1 _ _ hq0).trans r1
  have R2 : ∀ i, (F i).cell? ⟨q, off + 6 + 2, none⟩ = _ := fun i => ((bcell (hFb i)).1 _ _ hq0).trans r2
  have R3 : ∀ i, (F i).cell? ⟨q, off + 6 + 3, none⟩ = _ := fun i => ((bcell (hFb i)).1 _ _ hq0).trans r3
  have R4 : ∀ i, (F i).cell? ⟨q, off + 6 + 4, none⟩ = _ := fun i => ((bcell (hFb i)).1 _ _ hq0).trans r4
  have R5 : ∀ i, (F i).cell? ⟨q, off + 6 + 5, none⟩ = _ := fun i => ((bcell (hFb i)).1 _ _ hq0).trans r5
  have hti : t ≤ 1000000 := by omega
  clear hBB hop hpar hi0 hL0 hn0 hi hL hn h hca hcb b0 K0 hKE x0 x1 x2 x3 x4 x5 p0 p1 p2 p3 p4 p5 r0 r1 r2 r3 r4 r5 hle hA hcell hFb ma mb hok
  by_cases h33 : regsE a = 3 ∧ regsE b = 3
  · rw [if_pos h33] at hcode
    obtain ⟨xb, hxb⟩ : ∃ x, codeE g.env b t made = x := ⟨_, rfl⟩
    obtain ⟨xa, hxa⟩ : ∃ x, codeE g.env a (t + 1) xb.2 = x := ⟨_, rfl⟩
    have lb := LB t made
    have la := LA (t + 1) xb.2
    rw [hxb] at hcode lb
    simp only [hxa] at hcode
    rw [hxa] at la
    have C1 : Hid (∀ W, EmS g bm base W0 ls made [] W → _) := Lib.hid fun W hs => CB t ls made W h0 (by omega) (by omega) (by omega) hs
    rw [hxb] at C1
    have hl0 : (ls ++ xb.1).length ≤ 900000 := by simp only [List.length_append]; omega
    have C5 : Hid (∀ W, EmS g bm base W0 (ls ++ xb.1) xb.2 [] W → Calls Tryz.prog 40 #[.pointer (some ⟨bm, 0, none⟩), .int .u8 13, .int .i32 t] W (RetSt g bm base W0 (ls ++ xb.1 ++ [lnF 13 t]) xb.2 [] (.tuple #[]))) := Lib.hid fun W hs => putS (by decide) (by omega) hs
    have hl1 : (ls ++ xb.1 ++ [lnF 13 t]).length + 8 * nodesE a ≤ 900000 := by simp only [List.length_append, List.length_cons, List.length_nil]; omega
    have C2 : Hid (∀ W, EmS g bm base W0 (ls ++ xb.1 ++ [lnF 13 t]) xb.2 [] W → _) := Lib.hid fun W hs => CA (t + 1) (ls ++ xb.1 ++ [lnF 13 t]) xb.2 W (by omega) (by omega) hl1 (by omega) hs
    rw [hxa] at C2
    have hl2 : (ls ++ xb.1 ++ [lnF 13 t] ++ xa.1 ++ [lnF 7 t]).length ≤ 900000 := by simp only [List.length_append, List.length_cons, List.length_nil]; omega
    have hl3 : (ls ++ xb.1 ++ [lnF 13 t] ++ xa.1).length ≤ 900000 := by simp only [List.length_append, List.length_cons, List.length_nil]; omega
    have C4 : Hid (∀ W, EmS g bm base W0 (ls ++ xb.1 ++ [lnF 13 t] ++ xa.1) xa.2 [] W → Calls Tryz.prog 40 #[.pointer (some ⟨bm, 0, none⟩), .int .u8 7, .int .i32 t] W (RetSt g bm base W0 (ls ++ xb.1 ++ [lnF 13 t] ++ xa.1 ++ [lnF 7 t]) xa.2 [] (.tuple #[]))) := Lib.hid fun W hs => putS (by decide) (by omega) hs
    have C3 : Hid (∀ W, EmS g bm base W0 (ls ++ xb.1 ++ [lnF 13 t] ++ xa.1 ++ [lnF 7 t]) xa.2 [] W → _) := Lib.hid fun W hs => CO.out (ls ++ xb.1 ++ [lnF 13 t] ++ xa.1 ++ [lnF 7 t]) xa.2 W hl2 hs
    have HEQ : Hid (ls ++ xb.1 ++ [lnF 13 t] ++ xa.1 ++ [lnF 7 t] ++ operL e.oper = ls ++ (codeE g.env e t made).1 ∧ xa.2 = (codeE g.env e t made).2) := Lib.hid ⟨by rw [hcode]; simp only [List.append_assoc], by rw [hcode]⟩
    generalize codeE g.env e t made = CE at *
    obtain ⟨g1, g2⟩ := h33
    rw [g1] at HDa
    rw [g2] at HDb
    clear hxa hxb la lb hl0 hl1 hl2 hl3 hcode CA CB LA LB h1 h2 h3 hnd CO g1 g2 hra hrb
    go_enter Tryz.func42, Tryz.ntmps42
    go_wp2
    refine wp_region_quiet_fam F i0' h0' (by kernel_rfl) (by kernel_rfl) ?_
    repeat (go_big_quiet_step (first
      | (go_at_call 19; (with_reducible refine (HDa.out _).mono ?_); rintro e w4 ⟨rfl, hb4⟩; exact ⟨rfl, hcl _ _ hb4⟩)
      | (go_at_call 19; (with_reducible refine (HDb.out _).mono ?_); rintro e w4 ⟨rfl, hb4⟩; exact ⟨rfl, hcl _ _ hb4⟩)))
    refine wpQuiet_nil ?_
    intro i
    have hE : Hid (EmS g bm base W0 ls made [] (F i)) := Lib.hid (hE0.out.below (HFB.out i))
    clear HDa HDb
    go_wp2_with first
      | (go_at_call 22; (with_reducible refine (C1.out _ hE.out).mono ?_); rintro e5 W5 ⟨rfl, h5⟩
         have x5 := (h5.2.2 _ _ _ hX.out (by decide) hnb).cell 5
         simp at x5
         obtain ⟨⟨u0, u1, u2, u3, u4, u5⟩, y0, y1, y2, y3, y4, y5⟩ := HCL.out W5 (h5.bel.mono hB)
         replace hE := Lib.hid h5
         clear h5)
      | (go_at_call 40; (with_reducible refine (C5.out _ hE.out).mono ?_); rintro e5 W5 ⟨rfl, h5⟩
         have x5 := (h5.2.2 _ _ _ hX.out (by decide) hnb).cell 5
         simp at x5
         obtain ⟨⟨u0, u1, u2, u3, u4, u5⟩, y0, y1, y2, y3, y4, y5⟩ := HCL.out W5 (h5.bel.mono hB)
         replace hE := Lib.hid h5
         clear h5)
      | (go_at_call 22; (with_reducible refine (C2.out _ hE.out).mono ?_); rintro e5 W5 ⟨rfl, h5⟩
         have x5 := (h5.2.2 _ _ _ hX.out (by decide) hnb).cell 5
         simp at x5
         obtain ⟨⟨u0, u1, u2, u3, u4, u5⟩, y0, y1, y2, y3, y4, y5⟩ := HCL.out W5 (h5.bel.mono hB)
         replace hE := Lib.hid h5
         clear h5)
      | (go_at_call 40; (with_reducible refine (C4.out _ hE.out).mono ?_); rintro e5 W5 ⟨rfl, h5⟩
         have x1 := (h5.2.2 _ _ _ hX.out (by decide) hnb).cell 1
         simp at x1
         replace hE := Lib.hid h5
         clear h5)
      | (go_at_call 64; (with_reducible refine (C3.out _ hE.out).mono ?_); rintro e5 W5 ⟨rfl, h5⟩
         replace hE := Lib.hid h5
         clear h5)
    all_goals
      go_end0
      exact ⟨rfl, ret_of HEQ.out.1 HEQ.out.2 HKE.out hE.out⟩
  · rw [if_neg h33] at hcode
    by_cases hlt2 : regsE a < regsE b
    · rw [if_pos hlt2] at hcode
      obtain ⟨xb, hxb⟩ : ∃ x, codeE g.env b t made = x := ⟨_, rfl⟩
      obtain ⟨xa, hxa⟩ : ∃ x, codeE g.env a t xb.2 = x := ⟨_, rfl⟩
      have lb := LB t made
      have la := LA t xb.2
      rw [hxb] at hcode lb
      simp only [hxa] at hcode
      rw [hxa] at la
      have C1 : Hid (∀ W, EmS g bm base W0 ls made [] W → _) := Lib.hid fun W hs => CB t ls made W h0 (by omega) (by omega) (by omega) hs
      rw [hxb] at C1
      have hl1 : (ls ++ xb.1).length + 8 * nodesE a ≤ 900000 := by simp only [List.length_append]; omega
      have C2 : Hid (∀ W, EmS g bm base W0 (ls ++ xb.1) xb.2 [] W → _) := Lib.hid fun W hs => CA t (ls ++ xb.1) xb.2 W h0 (by omega) hl1 (by omega) hs
      rw [hxa] at C2
      have hl2 : (ls ++ xb.1 ++ xa.1 ++ [lnO 0]).length ≤ 900000 := by simp only [List.length_append, List.length_cons, List.length_nil]; omega
      have hl3 : (ls ++ xb.1 ++ xa.1).length ≤ 900000 := by simp only [List.length_append]; omega
      have C4 : Hid (∀ W, EmS g bm base W0 (ls ++ xb.1 ++ xa.1) xa.2 [] W → Calls Tryz.prog 40 #[.pointer (some ⟨bm, 0, none⟩), .int .u8 15, .int .i32 0] W (RetSt g bm base W0 (ls ++ xb.1 ++ xa.1 ++ [lnO 0]) xa.2 [] (.tuple #[]))) := Lib.hid fun W hs => putS (by decide) (by omega) hs
      have C3 : Hid (∀ W, EmS g bm base W0 (ls ++ xb.1 ++ xa.1 ++ [lnO 0]) xa.2 [] W → _) := Lib.hid fun W hs => CO.out (ls ++ xb.1 ++ xa.1 ++ [lnO 0]) xa.2 W hl2 hs
      have HEQ : Hid (ls ++ xb.1 ++ xa.1 ++ [lnO 0] ++ operL e.oper = ls ++ (codeE g.env e t made).1 ∧ xa.2 = (codeE g.env e t made).2) := Lib.hid ⟨by rw [hcode]; simp only [List.append_assoc], by rw [hcode]⟩
      generalize codeE g.env e t made = CE at *
      have ng : ((regsE a : Nat) : Int) < regsE b := by omega
      have n3 : ¬ (((regsE a : Nat) : Int) = 3 ∧ ((regsE b : Nat) : Int) = 3) := by omega
      generalize regsE a = ra at *
      generalize regsE b = rb at *
      clear hxa hxb la lb hl1 hl2 hl3 hcode CA CB LA LB h1 h2 h3 hnd CO
      go_enter Tryz.func42, Tryz.ntmps42
      go_wp2
      refine wp_region_quiet_fam F i0' h0' (by kernel_rfl) (by kernel_rfl) ?_
      repeat (go_big_quiet_step (first
        | (go_at_call 19; (with_reducible refine (HDa.out _).mono ?_); rintro e w4 ⟨rfl, hb4⟩; exact ⟨rfl, hcl _ _ hb4⟩)
        | (go_at_call 19; (with_reducible refine (HDb.out _).mono ?_); rintro e w4 ⟨rfl, hb4⟩; exact ⟨rfl, hcl _ _ hb4⟩)))
      refine wpQuiet_nil ?_
      intro i
      have hE : Hid (EmS g bm base W0 ls made [] (F i)) := Lib.hid (hE0.out.below (HFB.out i))
      clear HDa HDb
      go_wp2_with first
        | (go_at_call 22; (with_reducible refine (C1.out _ hE.out).mono ?_); rintro e5 W5 ⟨rfl, h5⟩
           have x5 := (h5.2.2 _ _ _ hX.out (by decide) hnb).cell 5
           simp at x5
           obtain ⟨⟨u0, u1, u2, u3, u4, u5⟩, y0, y1, y2, y3, y4, y5⟩ := HCL.out W5 (h5.bel.mono hB)
           replace hE := Lib.hid h5
           clear h5)
        | (go_at_call 22; (with_reducible refine (C2.out _ hE.out).mono ?_); rintro e5 W5 ⟨rfl, h5⟩
           have x5 := (h5.2.2 _ _ _ hX.out (by decide) hnb).cell 5
           simp at x5
           obtain ⟨⟨u0, u1, u2, u3, u4, u5⟩, y0, y1, y2, y3, y4, y5⟩ := HCL.out W5 (h5.bel.mono hB)
           replace hE := Lib.hid h5
           clear h5)
        | (go_at_call 40; (with_reducible refine (C4.out _ hE.out).mono ?_); rintro e5 W5 ⟨rfl, h5⟩
           have x1 := (h5.2.2 _ _ _ hX.out (by decide) hnb).cell 1
           simp at x1
           replace hE := Lib.hid h5
           clear h5)
        | (go_at_call 64; (with_reducible refine (C3.out _ hE.out).mono ?_); rintro e5 W5 ⟨rfl, h5⟩
           replace hE := Lib.hid h5
           clear h5)
      all_goals
        go_end0
        exact ⟨rfl, ret_of HEQ.out.1 HEQ.out.2 HKE.out hE.out⟩
    · rw [if_neg hlt2] at hcode
      obtain ⟨xa, hxa⟩ : ∃ x, codeE g.env a t made = x := ⟨_, rfl⟩
      obtain ⟨xb, hxb⟩ : ∃ x, codeE g.env b t xa.2 = x := ⟨_, rfl⟩
      have la := LA t made
      have lb := LB t xa.2
      rw [hxa] at hcode la
      simp only [hxb] at hcode
      rw [hxb] at lb
      have C1 : Hid (∀ W, EmS g bm base W0 ls made [] W → _) := Lib.hid fun W hs => CA t ls made W h0 (by omega) (by omega) (by omega) hs
      rw [hxa] at C1
      have hl1 : (ls ++ xa.1).length + 8 * nodesE b ≤ 900000 := by simp only [List.length_append]; omega
      have C2 : Hid (∀ W, EmS g bm base W0 (ls ++ xa.1) xa.2 [] W → _) := Lib.hid fun W hs => CB t (ls ++ xa.1) xa.2 W h0 (by omega) hl1 (by omega) hs
      rw [hxb] at C2
      have hl2 : (ls ++ xa.1 ++ xb.1).length ≤ 900000 := by simp only [List.length_append]; omega
      have C3 : Hid (∀ W, EmS g bm base W0 (ls ++ xa.1 ++ xb.1) xb.2 [] W → _) := Lib.hid fun W hs => CO.out (ls ++ xa.1 ++ xb.1) xb.2 W hl2 hs
      have HEQ : Hid (ls ++ xa.1 ++ xb.1 ++ operL e.oper = ls ++ (codeE g.env e t made).1 ∧ xb.2 = (codeE g.env e t made).2) := Lib.hid ⟨by rw [hcode]; simp only [List.append_assoc], by rw [hcode]⟩
      generalize codeE g.env e t made = CE at *
      have ng : ¬ ((regsE a : Nat) : Int) < regsE b := by omega
      have n3 : ¬ (((regsE a : Nat) : Int) = 3 ∧ ((regsE b : Nat) : Int) = 3) := by omega
      generalize regsE a = ra at *
      generalize regsE b = rb at *
      clear hxa hxb la lb hl1 hl2 hcode CA CB LA LB h1 h2 h3 hnd CO
      go_enter Tryz.func42, Tryz.ntmps42
      go_wp2
      refine wp_region_quiet_fam F i0' h0' (by kernel_rfl) (by kernel_rfl) ?_
      repeat (go_big_quiet_step (first
        | (go_at_call 19; (with_reducible refine (HDa.out _).mono ?_); rintro e w4 ⟨rfl, hb4⟩; exact ⟨rfl, hcl _ _ hb4⟩)
        | (go_at_call 19; (with_reducible refine (HDb.out _).mono ?_); rintro e w4 ⟨rfl, hb4⟩; exact ⟨rfl, hcl _ _ hb4⟩)))
      refine wpQuiet_nil ?_
      intro i
      have hE : Hid (EmS g bm base W0 ls made [] (F i)) := Lib.hid (hE0.out.below (HFB.out i))
      clear HDa HDb
      go_wp2_with first
        | (go_at_call 22; (with_reducible refine (C1.out _ hE.out).mono ?_); rintro e5 W5 ⟨rfl, h5⟩
           have x5 := (h5.2.2 _ _ _ hX.out (by decide) hnb).cell 5
           simp at x5
           obtain ⟨⟨u0, u1, u2, u3, u4, u5⟩, y0, y1, y2, y3, y4, y5⟩ := HCL.out W5 (h5.bel.mono hB)
           replace hE := Lib.hid h5
           clear h5)
        | (go_at_call 22; (with_reducible refine (C2.out _ hE.out).mono ?_); rintro e5 W5 ⟨rfl, h5⟩
           have x5 := (h5.2.2 _ _ _ hX.out (by decide) hnb).cell 5
           simp at x5
           obtain ⟨⟨u0, u1, u2, u3, u4, u5⟩, y0, y1, y2, y3, y4, y5⟩ := HCL.out W5 (h5.bel.mono hB)
           have x1 := (h5.2.2 _ _ _ hX.out (by decide) hnb).cell 1
           simp at x1
           replace hE := Lib.hid h5
           clear h5)
        | (go_at_call 64; (with_reducible refine (C3.out _ hE.out).mono ?_); rintro e5 W5 ⟨rfl, h5⟩
           replace hE := Lib.hid h5
           clear h5)
      all_goals
        go_end0
        exact ⟨rfl, ret_of HEQ.out.1 HEQ.out.2 HKE.out hE.out⟩
end Go.Proofs.YtbefmlioampgcaaGreatDoor

/- The code of an expression, emitted: code, walked. -/
namespace Go.Proofs.YtbefmlioampgcaaGreatDoor
open Go.RowKit
set_option linter.unusedVariables false
set_option linter.unusedSimpArgs false

theorem fieldsB_kind {e : KE} (h : fieldsB e = true) : (e.l.length = 0 ∧ (e.kind = 1 ∨ e.kind = 2)) ∨ (e.l.length = 1 ∧ (e.kind = 3 ∨ e.kind = 4 ∨ e.kind = 6)) ∨ (e.l.length = 2 ∧ e.kind = 5) := by
  unfold fieldsB at h
  split at h <;> first | (have h := of_decide_eq_true h; omega) | cases h
/-- One part: its cells. -/
theorem one_at {w : World} {B : Nat} {A : Option Addr} {a : KE} (h : kesIn w B A [a]) : ∃ q off, A = some ⟨q, off, none⟩ ∧ q < B ∧
    ∀ w', Below B w w' → w'.cell? ⟨q, off, none⟩ = some (.int .u8 a.kind) ∧ w'.cell? ⟨q, off + 1, none⟩ = some (.int .u8 a.oper) ∧ w'.cell? ⟨q, off + 2, none⟩ = some (.int .u8 a.tk) ∧ w'.cell? ⟨q, off + 3, none⟩ = some (.int .i32 a.n) ∧ w'.cell? ⟨q, off + 4, none⟩ = some (.int .i64 a.v) ∧ w'.cell? ⟨q, off + 5, none⟩ = some (.slice a.A a.l.length a.c) := by
  obtain ⟨q, off, rfl, hq, hc⟩ := h.2.1.addr (by simp) (by omega)
  refine ⟨q, off, rfl, hq, fun w' hb => ?_⟩
  have hk : ∀ o, w'.cell? ⟨q, o, none⟩ = w.cell? ⟨q, o, none⟩ := fun o => hb.cell (p := ⟨q, o, none⟩) hq
  simp only [hk]
  exact ⟨hc 0 _ rfl, hc 1 _ rfl, hc 2 _ rfl, hc 3 _ rfl, hc 4 _ rfl, hc 5 _ rfl⟩
set_option maxRecDepth 100000 in
set_option maxHeartbeats 4000000 in
theorem gCode (g : EmL) (bm base B : Nat) (e : KE) : OkE e → KnownE g e → CodeOk g bm base B e := by
  induction e using KE.ind with
  | h e ih =>
    intro hok hkn t ls made w h0 h1 h2 h3 hi hL hn hB h
    have hfl := hok.fields
    have hkind := fieldsB_kind hfl
    obtain ⟨W0, hW0⟩ : ∃ W, w.alloc (.cells e.cells 27) = W := ⟨_, rfl⟩
    have K0 : Below w.heap.size w W0 := by rw [← hW0]; exact (Below.refl _ _).alloc (Nat.le_refl _) _
    have b0 : Blk W0 w.heap.size 27 e.cells := by rw [← hW0]; exact Blk.new _ _ _
    have hbs := h.base_le
    have hBw : B ≤ w.heap.size := Nat.le_trans hB hbs
    have HKE : Hid (EmK bm base w W0) := Lib.hid (EmK.of_below K0 hbs)
    have hE : Hid (EmS g bm base W0 ls made [] W0) := Lib.hid ⟨h.below K0, EmK.refl _ _ _⟩
    have hnb : ¬ w.heap.size = bm := by have := h.lt; omega
    have hi0 := hi.below (K0.mono hBw)
    have hL0 := hL.on (K0.mono hBw)
    have hn0 := hn.below (K0.mono hBw)
    have hX : Hid (Blk W0 w.heap.size 27 e.cells) := Lib.hid b0
    have hnd : 1 ≤ nodesE e := by rw [nodesE_eq]; omega
    have hlt := b0.lt
    have hvo := hi.one.1.2.2.2.2.1
    rcases hkind with ⟨hl0, hk⟩ | ⟨hl1, hk⟩ | ⟨hl2, hk⟩
    · have hle : e.l = [] := List.eq_nil_of_length_eq_zero hl0
      have hcode := codeE_0 g.env hle t made
      rcases hk with hk | hk
      · rw [if_pos hk] at hcode
        have C1 : Hid (∀ W, EmS g bm base W0 ls made [] W → Calls Tryz.prog 40 #[.pointer (some ⟨bm, 0, none⟩), .int .u8 4, .int .i32 e.n] W (RetSt g bm base W0 (ls ++ [lnF 4 e.n]) made [] (.tuple #[]))) := Lib.hid fun W hs => putS (by decide) (by omega) hs
        have HEQ : Hid (ls ++ [lnF 4 e.n] = ls ++ (codeE g.env e t made).1 ∧ made = (codeE g.env e t made).2) := Lib.hid ⟨by rw [hcode], by rw [hcode]⟩
        generalize codeE g.env e t made = CE at *
        simp only [KE.cells] at b0 hW0 hX ⊢
        obtain ⟨K, hK⟩ : ∃ K : Int, (e.kind : Int) = K := ⟨_, rfl⟩
        rw [hK] at b0 hW0 hX ⊢
        obtain rfl : K = 1 := by omega
        have x0 := b0.cell 0
        have x1 := b0.cell 1
        have x2 := b0.cell 2
        have x3 := b0.cell 3
        have x4 := b0.cell 4
        have x5 := b0.cell 5
        simp at x0 x1 x2 x3 x4 x5
        clear hi0 hL0 hn0 hi hL hn h b0 K0 hcode hle ih hok hkn hfl hvo h0 h1 h2 h3 hK hk hl0
        go_enter Tryz.func22, Tryz.ntmps22
        go_wp2_with first
          | (go_at_call 40; (with_reducible refine (C1.out _ hE.out).mono ?_); rintro e5 W5 ⟨rfl, h5⟩
             replace hE := Lib.hid h5
             clear h5)
        all_goals
          go_end0
          exact ⟨rfl, ret_of HEQ.out.1 HEQ.out.2 HKE.out hE.out⟩
      · rw [if_neg (by omega)] at hcode
        have C1 : Hid (∀ W, EmS g bm base W0 ls made [] W → Calls Tryz.prog 40 #[.pointer (some ⟨bm, 0, none⟩), .int .u8 7, .int .i32 (wrap32 ((varL g.s g.frame e.v).getD 0))] W (RetSt g bm base W0 (ls ++ [lnF 7 (g.env.off e.v)]) made [] (.tuple #[]))) := Lib.hid fun W hs => putS (by decide) (by omega) hs
        have HEQ : Hid (ls ++ [lnF 7 (g.env.off e.v)] = ls ++ (codeE g.env e t made).1 ∧ made = (codeE g.env e t made).2) := Lib.hid ⟨by rw [hcode], by rw [hcode]⟩
        generalize codeE g.env e t made = CE at *
        obtain ⟨h1b, vv, hBm, hOw⟩ := hE.out.1
        have hbm0 := hBm.lt
        simp only [EmL.cells] at hBm
        have d0 := hBm.cell 0
        have d1 := hBm.cell 1
        have d2 := hBm.cell 2
        have d3 := hBm.cell 3
        have d4 := hBm.cell 4
        have d5 := hBm.cell 5
        have d6 := hBm.cell 6
        have d7 := hBm.cell 7
        have d8 := hBm.cell 8
        have d9 := hBm.cell 9
        have d10 := hBm.cell 10
        simp at d0 d1 d2 d3 d4 d5 d6 d7 d8 d9 d10
        obtain ⟨ι, F, i0', h0', hFb, hcl⟩ := fam_below W0
        haveI : Nonempty ι := ⟨i0'⟩
        have F1 : ∀ i, (F i).cell? ⟨bm, 1, none⟩ = some (.slice g.s.Af g.s.fr.length g.s.cf) := fun i => ((bcell (hFb i)).1 bm 1 hbm0).trans d1
        have F2 : ∀ i, (F i).cell? ⟨bm, 2, none⟩ = some (.slice g.s.A1 g.s.vat.length g.s.c1) := fun i => ((bcell (hFb i)).1 bm 2 hbm0).trans d2
        have F3 : ∀ i, (F i).cell? ⟨bm, 3, none⟩ = some (.slice g.s.A2 g.s.vin.length g.s.c2) := fun i => ((bcell (hFb i)).1 bm 3 hbm0).trans d3
        have F4 : ∀ i, (F i).cell? ⟨bm, 4, none⟩ = some (.slice g.s.A3 g.s.cat.length g.s.c3) := fun i => ((bcell (hFb i)).1 bm 4 hbm0).trans d4
        have F5 : ∀ i, (F i).cell? ⟨bm, 5, none⟩ = some (.slice g.s.A4 g.s.cin.length g.s.c4) := fun i => ((bcell (hFb i)).1 bm 5 hbm0).trans d5
        have F6 : ∀ i, (F i).cell? ⟨bm, 6, none⟩ = some (.int .i64 g.frame) := fun i => ((bcell (hFb i)).1 bm 6 hbm0).trans d6
        have hBB : B ≤ W0.heap.size := Nat.le_trans hBw K0.size
        have HV : Hid (∀ i, Calls Tryz.prog 39 #[.agg g.s.cells, .int .i64 g.frame, .int .i64 e.v] (F i) (RetV (spotV (varL g.s g.frame e.v)) (F i))) := Lib.hid fun i =>
          sVar g.s g.frame e.v B (F i) (hn0.1.below ((hFb i).mono hBB)) (Nat.le_trans hBB (hFb i).size) hn0.2.2.1 hvo
        simp only [SpL.cells] at HV
        unfold spotV at HV
        have HFB := Lib.hid hFb
        generalize varL g.s g.frame e.v = sp at *
        simp only [KE.cells] at b0 hW0 hX ⊢
        obtain ⟨K, hK⟩ : ∃ K : Int, (e.kind : Int) = K := ⟨_, rfl⟩
        rw [hK] at b0 hW0 hX ⊢
        obtain rfl : K = 2 := by omega
        have x0 := b0.cell 0
        have x1 := b0.cell 1
        have x2 := b0.cell 2
        have x3 := b0.cell 3
        have x4 := b0.cell 4
        have x5 := b0.cell 5
        simp at x0 x1 x2 x3 x4 x5
        have FV : ∀ i, (F i).cell? ⟨w.heap.size, 4, none⟩ = some (.int .i64 e.v) := fun i => ((bcell (hFb i)).1 w.heap.size 4 hlt).trans x4
        clear hi0 hL0 hn0 hi hL hn h b0 K0 hcode hle ih hok hkn hfl hvo h0 h1 h2 h3 hK hk hl0 d0 d1 d2 d3 d4 d5 d6 d7 d8 d9 d10 hBm hOw hFb x1 x2 x3 x4 x5
        go_enter Tryz.func22, Tryz.ntmps22
        go_wp2
        refine wp_region_quiet_fam F i0' h0' (by kernel_rfl) (by kernel_rfl) ?_
        repeat (go_big_quiet_step (first
          | (go_at_call 39; refine (HV.out _).mono ?_; rintro e w4 ⟨rfl, hb4⟩; exact ⟨rfl, hcl _ _ hb4⟩)))
        refine wpQuiet_nil ?_
        intro i
        replace hE := Lib.hid (hE.out.below (HFB.out i))
        go_wp2_with first
          | (go_at_call 40; (with_reducible refine (C1.out _ hE.out).mono ?_); rintro e5 W5 ⟨rfl, h5⟩
             replace hE := Lib.hid h5
             clear h5)
        all_goals
          go_end0
          exact ⟨rfl, ret_of HEQ.out.1 HEQ.out.2 HKE.out hE.out⟩
    · obtain ⟨a, hle⟩ : ∃ a, e.l = [a] := by
        match hq : e.l with
        | [a] => exact ⟨a, rfl⟩
        | [] => rw [hq] at hl1; cases hl1
        | _ :: _ :: _ => rw [hq] at hl1; simp at hl1
      have hcode := codeE_1 g.env hle t made
      have ma : a ∈ e.l := by rw [hle]; simp
      have hna := nodesE_1 hle
      have hca := ih a ma (hok.part ma) (hkn.part ma)
      have hpar := hi0.parts
      rw [hle] at hpar
      obtain ⟨q, off, hA, hqB, hcell⟩ := one_at hpar
      obtain ⟨xa, hxa⟩ : ∃ x, codeE g.env a t made = x := ⟨_, rfl⟩
      have la := code_len g.env a t made
      rw [hxa] at hcode la
      have C1 : Hid (∀ W, EmS g bm base W0 ls made [] W → Calls Tryz.prog 22 #[.pointer (some ⟨bm, 0, none⟩), .agg a.cells, .int .i32 t] W (RetSt g bm base W0 (ls ++ xa.1) xa.2 [] (.tuple #[]))) := Lib.hid fun W hs => by
        have := codeS hca h0 (t := t) (by omega) (by omega) (by omega) (hi0.part ma) hL0 hn0 hB hs
        rwa [hxa] at this
      have hl1' : (ls ++ xa.1).length ≤ 900000 := by simp only [List.length_append]; omega
      have C2 : Hid (∀ W, EmS g bm base W0 (ls ++ xa.1) xa.2 [] W → Calls Tryz.prog 43 #[.pointer (some ⟨bm, 0, none⟩), .agg e.cells] W (RetSt g bm base W0 (ls ++ xa.1 ++ afterL g.env e.kind e.oper e.tk e.v) xa.2 [] (.tuple #[]))) := Lib.hid fun W hs =>
        (gAfter g bm base B (ls ++ xa.1) xa.2 e hfl hl1 (KE.all_iff.1 hkn).1 hl1' W hs.1 (hn0.below (hs.bel.mono hB)) hB hvo).mono fun _ _ hr => hs.of_ret hr
      have HEQ : Hid (ls ++ xa.1 ++ afterL g.env e.kind e.oper e.tk e.v = ls ++ (codeE g.env e t made).1 ∧ xa.2 = (codeE g.env e t made).2) := Lib.hid ⟨by rw [hcode]; simp only [List.append_assoc], by rw [hcode]⟩
      generalize codeE g.env e t made = CE at *
      generalize ls ++ xa.1 ++ afterL g.env e.kind e.oper e.tk e.v = L2 at *
      simp only [KE.cells] at C1 C2 b0 hW0 hX ⊢
      rw [hA, hle] at C2 b0 hW0 hX ⊢
      simp only [List.length_cons, List.length_nil, Nat.zero_add] at C2 b0 hW0 hX ⊢
      obtain ⟨K, hK⟩ : ∃ K : Int, (e.kind : Int) = K := ⟨_, rfl⟩
      rw [hK] at C2 b0 hW0 hX ⊢
      have x0 := b0.cell 0
      have x1 := b0.cell 1
      have x2 := b0.cell 2
      have x3 := b0.cell 3
      have x4 := b0.cell 4
      have x5 := b0.cell 5
      simp at x0 x1 x2 x3 x4 x5
      have hq0 : q < W0.heap.size := by have := K0.size; omega
      obtain ⟨p0, p1, p2, p3, p4, p5⟩ := hcell W0 (Below.refl _ _)
      have hk' : K = 3 ∨ K = 4 ∨ K = 6 := by omega
      clear hk hK hcell hpar hA hle la hxa hl1' hcode hi0 hL0 hn0 hi hL hn h b0 K0 ih hok hkn hfl hvo h0 h1 h2 h3 hca hna ma hl1
      rcases hk' with rfl | rfl | rfl
      all_goals
        go_enter Tryz.func22, Tryz.ntmps22
        go_wp2_with first
          | (go_at_call 22; (with_reducible refine (C1.out _ hE.out).mono ?_); rintro e5 W5 ⟨rfl, h5⟩
             have hbx := h5.2.2 _ _ _ hX.out (by decide) hnb
             have x0 := hbx.cell 0
             have x1 := hbx.cell 1
             have x2 := hbx.cell 2
             have x3 := hbx.cell 3
             have x4 := hbx.cell 4
             have x5 := hbx.cell 5
             simp at x0 x1 x2 x3 x4 x5
             clear hbx
             replace hE := Lib.hid h5
             clear h5)
          | (go_at_call 43; (with_reducible refine (C2.out _ hE.out).mono ?_); rintro e5 W5 ⟨rfl, h5⟩
             replace hE := Lib.hid h5
             clear h5)
        all_goals
          go_end0
          exact ⟨rfl, ret_of HEQ.out.1 HEQ.out.2 HKE.out hE.out⟩
    · obtain ⟨a, b, hle⟩ : ∃ a b, e.l = [a, b] := by
        match hq : e.l with
        | [a, b] => exact ⟨a, b, rfl⟩
        | [] => rw [hq] at hl2; cases hl2
        | [_] => rw [hq] at hl2; cases hl2
        | _ :: _ :: _ :: _ => rw [hq] at hl2; simp at hl2
      have ma : a ∈ e.l := by rw [hle]; simp
      have mb : b ∈ e.l := by rw [hle]; simp
      have hca := ih a ma (hok.part ma) (hkn.part ma)
      have hcb := ih b mb (hok.part mb) (hkn.part mb)
      by_cases ho : e.oper = 20 ∨ e.oper = 21
      · have C1 : Hid (∀ W, EmS g bm base W0 ls made [] W → Calls Tryz.prog 41 #[.pointer (some ⟨bm, 0, none⟩), .agg e.cells, .int .i32 t] W (RetSt g bm base W0 (ls ++ (codeE g.env e t made).1) (codeE g.env e t made).2 [] (.tuple #[]))) := Lib.hid fun W hs =>
          (gDecide g bm base B e a b hle ho hca hcb t ls made W h0 h1 h2 h3 (hi0.below (hs.bel.mono hB)) (hL0.on (hs.bel.mono hB)) (hn0.below (hs.bel.mono hB)) hB hs.1).mono fun _ _ hr => hs.of_ret hr
        generalize codeE g.env e t made = CE at *
        simp only [KE.cells] at C1
        obtain ⟨O, hO⟩ : ∃ K : Int, (e.oper : Int) = K := ⟨_, rfl⟩
        rw [hO] at C1
        simp only [KE.cells] at b0 hW0 hX ⊢
        obtain ⟨K, hK⟩ : ∃ K : Int, (e.kind : Int) = K := ⟨_, rfl⟩
        rw [hK] at C1 b0 hW0 hX ⊢
        rw [hO] at b0 hW0 hX ⊢
        obtain rfl : K = 5 := by omega
        have x0 := b0.cell 0
        have x1 := b0.cell 1
        have x2 := b0.cell 2
        have x3 := b0.cell 3
        have x4 := b0.cell 4
        have x5 := b0.cell 5
        simp at x0 x1 x2 x3 x4 x5
        have ho' : O = 20 ∨ O = 21 := by omega
        clear hi0 hL0 hn0 hi hL hn h b0 K0 hle ih hok hkn hfl hvo h0 h1 h2 h3 hK hk hO ho hca hcb ma mb hl2
        rcases ho' with rfl | rfl
        all_goals
          go_enter Tryz.func22, Tryz.ntmps22
          go_wp2_with first
            | (go_at_call 41; (with_reducible refine (C1.out _ hE.out).mono ?_); rintro e5 W5 ⟨rfl, h5⟩
               replace hE := Lib.hid h5
               clear h5)
          all_goals
            go_end0
            exact ⟨rfl, ret_of rfl rfl HKE.out hE.out⟩
      · have C1 : Hid (∀ W, EmS g bm base W0 ls made [] W → Calls Tryz.prog 42 #[.pointer (some ⟨bm, 0, none⟩), .agg e.cells, .int .i32 t] W (RetSt g bm base W0 (ls ++ (codeE g.env e t made).1) (codeE g.env e t made).2 [] (.tuple #[]))) := Lib.hid fun W hs =>
          (gDyadic g bm base B e a b hle hok ho hca hcb t ls made W h0 h1 h2 h3 (hi0.below (hs.bel.mono hB)) (hL0.on (hs.bel.mono hB)) (hn0.below (hs.bel.mono hB)) hB hs.1).mono fun _ _ hr => hs.of_ret hr
        generalize codeE g.env e t made = CE at *
        simp only [KE.cells] at C1
        obtain ⟨O, hO⟩ : ∃ K : Int, (e.oper : Int) = K := ⟨_, rfl⟩
        rw [hO] at C1
        simp only [KE.cells] at b0 hW0 hX ⊢
        obtain ⟨K, hK⟩ : ∃ K : Int, (e.kind : Int) = K := ⟨_, rfl⟩
        rw [hK] at C1 b0 hW0 hX ⊢
        rw [hO] at b0 hW0 hX ⊢
        obtain rfl : K = 5 := by omega
        have x0 := b0.cell 0
        have x1 := b0.cell 1
        have x2 := b0.cell 2
        have x3 := b0.cell 3
        have x4 := b0.cell 4
        have x5 := b0.cell 5
        simp at x0 x1 x2 x3 x4 x5
        have b20 : (O == 20) = false := by simp; omega
        have b21 : (O == 21) = false := by simp; omega
        clear hi0 hL0 hn0 hi hL hn h b0 K0 hle ih hok hkn hfl hvo h0 h1 h2 h3 hK hk hO ho hca hcb ma mb hl2
        go_enter Tryz.func22, Tryz.ntmps22
        go_wp2_with first
          | (go_at_call 42; (with_reducible refine (C1.out _ hE.out).mono ?_); rintro e5 W5 ⟨rfl, h5⟩
             replace hE := Lib.hid h5
             clear h5)
        all_goals
          go_end0
          exact ⟨rfl, ret_of rfl rfl HKE.out hE.out⟩
end Go.Proofs.YtbefmlioampgcaaGreatDoor
