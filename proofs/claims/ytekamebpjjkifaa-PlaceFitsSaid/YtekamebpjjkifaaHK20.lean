/- Texts that belong together, joined: what each one holds is told ahead of it. -/
import Derived.Test.YtekamebpjjkifaaHK17
import Derived.Test.YtekamebpjjkifaaHK18
import Derived.Test.YtekamebpjjkifaaHK19
import Derived.Test.YtekamebpjjkifaaHK16
/- Guards of the checker, walked in the program: guard. -/
namespace Go.Proofs.Ytekamebpjjkifaa
open Go.RowKit
set_option linter.unusedSimpArgs false
set_option linter.unusedVariables false

set_option maxRecDepth 100000 in
theorem kGuard (k : KK) (n : Int) (g : KG) (choice : Bool) (B bc : Nat) (w : World) (hc : Chk w B bc k n) (hi : g.One w B) :
    Calls Try.prog 77 #[.pointer (some ⟨bc, 0, none⟩), .agg g.flat, .bool choice] w (RetV (.bool (guardB k.vars k.chans.length choice g)) w) := by
  obtain ⟨W0, hW0⟩ : ∃ W, w.alloc (.cells g.flat 103) = W := ⟨_, rfl⟩
  have b0 : Blk W0 w.heap.size 103 g.flat := by rw [← hW0]; exact Blk.new w _ _
  have K0 : Below w.heap.size w W0 := by rw [← hW0]; exact (Below.refl _ _).alloc (Nat.le_refl _) _
  have hc0 := hc.call K0
  have hi0 := hi.below (K0.mono hc.leB)
  have HC := Lib.hid (kFits3 k n g.cond B bc W0 hc0 hi0.2.1)
  have HT := Lib.hid (fun (w1 : World) (hb : Below W0.heap.size W0 w1) => kFits1 k n g.time B bc w1 (hc0.call hb) (hi0.2.2.2.1.below (hb.mono hc0.leB)))
  have HI := Lib.hid (fun (w1 : World) (hb : Below W0.heap.size W0 w1) => kInput k n g.c g.item g.dst B bc w1 (hc0.call hb) hi0.1.2.1 (hi0.2.2.1.below (hb.mono hc0.leB)))
  have HPl := Lib.hid (fun (i t : Bool) (w1 : World) => kPlain g i t w1)
  have hR : guardB k.vars k.chans.length choice g = (decide (g.body.length = 1) && FitsB k.vars g.cond 3 &&
    match g.kind with
    | 1 => choice && noneB g.time && noIn g
    | 2 => !choice && noneB g.time && noIn g
    | 3 => !choice && noneB g.time && inputB k.vars k.chans.length g.c g.item g.dst
    | 4 => !choice && noIn g && FitsB k.vars g.time 1
    | _ => false) := rfl
  rw [hR]
  generalize FitsB k.vars g.time 1 = fT at *
  generalize FitsB k.vars g.cond 3 = fC at *
  generalize inputB k.vars k.chans.length g.c g.item g.dst = fI at *
  generalize noneB g.time = nT at *
  generalize noIn g = nI at *
  obtain ⟨gk, ⟨k1, o1, t1, n1, v1, A1, c1, l1⟩, gc, gi, ⟨pv, pA, pc, pl⟩, ⟨k2, o2, t2, n2, v2, A2, c2, l2⟩, Ab, cb, body⟩ := g
  simp only [KG.flat, KE.cells, KPl.cells] at hW0 b0 HC HT HI HPl ⊢
  generalize body.length = mb at *
  by_cases hm : mb = 1
  · subst hm
    simp only [decide_true, Bool.true_and]
    cases fC with
    | false =>
      rw [Bool.false_and]
      exact kGuard_f choice hW0 HC
    | true =>
      rw [Bool.true_and]
      cases choice with
      | true =>
        by_cases h1 : gk = 1
        · have := kGuard_t1 hW0 HC HPl h1
          subst h1
          simpa [Bool.and_comm] using this
        · have := kGuard_t0 hW0 HC h1
          split
          all_goals first
            | exact absurd rfl h1
            | exact this
      | false =>
        by_cases h1 : gk = 1
        · have := kGuard_f1 hW0 HC h1
          subst h1
          exact this
        by_cases h2 : gk = 2
        · have := kGuard_f2 hW0 HC HPl h2
          subst h2
          simpa [Bool.and_comm] using this
        by_cases h3 : gk = 3
        · subst h3
          cases nT with
          | false => exact kGuard_f3n hW0 HC HPl rfl
          | true => exact kGuard_f3 hW0 HC HPl HI rfl
        by_cases h4 : gk = 4
        · subst h4
          cases nI with
          | false => exact kGuard_f4n hW0 HC HPl rfl
          | true => exact kGuard_f4 hW0 HC HPl HT rfl
        have := kGuard_f0 hW0 HC ⟨h1, h2, h3, h4⟩
        split
        all_goals first
          | (exfalso; omega)
          | exact this
  · have hm1 : ((mb : Int) == 1) = false := by simp; omega
    have HK0 := Lib.hid K0
    rw [show decide (mb = 1) = false by simp [hm], Bool.false_and, Bool.false_and]
    have e0 := b0.cell 0
    have e1 := b0.cell 1
    have e2 := b0.cell 2
    have e3 := b0.cell 3
    have e4 := b0.cell 4
    have e5 := b0.cell 5
    have e6 := b0.cell 6
    have e7 := b0.cell 7
    have e8 := b0.cell 8
    have e9 := b0.cell 9
    have e10 := b0.cell 10
    have e11 := b0.cell 11
    have e12 := b0.cell 12
    have e13 := b0.cell 13
    have e14 := b0.cell 14
    have e15 := b0.cell 15
    have e16 := b0.cell 16
    have e17 := b0.cell 17
    simp at e0 e1 e2 e3 e4 e5 e6 e7 e8 e9 e10 e11 e12 e13 e14 e15 e16 e17
    clear hm b0 K0 hc0 hi0 hi hc hR HC HT HI HPl
    go_enter Try.func77, Try.ntmps77
    go_wp2
    go_ret
    exact ⟨rfl, HK0.out⟩
end Go.Proofs.Ytekamebpjjkifaa

/- The checks of single kinds, walked in the program. -/
namespace Go.Proofs.Ytekamebpjjkifaa
open Go.RowKit
set_option linter.unusedSimpArgs false
set_option linter.unusedVariables false

/-- What shape answers for a process. -/
def shapeP (p : KP) (ch v : Bool) (a0 a1 b0 b1 c0 c1 d0 d1 : Int) : Bool := shapeI p.c p.v p.item p.tos.length p.e.length p.g.length p.l.length ch v a0 a1 b0 b1 c0 c1 d0 d1
theorem shapeP_len {p : KP} {ch v : Bool} {a0 a1 b0 b1 c0 c1 d0 d1 : Int} (h : shapeP p ch v a0 a1 b0 b1 c0 c1 d0 d1 = true) :
    a0 ≤ p.tos.length ∧ p.tos.length ≤ a1 ∧ b0 ≤ p.e.length ∧ p.e.length ≤ b1 ∧ c0 ≤ p.g.length ∧ p.g.length ≤ c1 ∧ d0 ≤ p.l.length ∧ p.l.length ≤ d1 := by
  simp only [shapeP, shapeI, inI, Bool.and_eq_true, decide_eq_true_eq] at h
  omega
theorem kShapeP_ff (p : KP) (a0 a1 b0 b1 c0 c1 d0 d1 : Int) (w : World) : Calls Try.prog 70 #[.agg p.cells, .bool false, .bool false, .agg #[.int .i64 a0, .int .i64 a1], .agg #[.int .i64 b0, .int .i64 b1], .agg #[.int .i64 c0, .int .i64 c1], .agg #[.int .i64 d0, .int .i64 d1]] w
    (RetV (.bool (shapeP p false false a0 a1 b0 b1 c0 c1 d0 d1)) w) := kShape_ff p.kind p.c p.v p.item p.At p.Ae p.Ag p.Al _ _ _ _ _ _ _ _ a0 a1 b0 b1 c0 c1 d0 d1 w
theorem kShapeP_ft (p : KP) (a0 a1 b0 b1 c0 c1 d0 d1 : Int) (w : World) : Calls Try.prog 70 #[.agg p.cells, .bool false, .bool true, .agg #[.int .i64 a0, .int .i64 a1], .agg #[.int .i64 b0, .int .i64 b1], .agg #[.int .i64 c0, .int .i64 c1], .agg #[.int .i64 d0, .int .i64 d1]] w
    (RetV (.bool (shapeP p false true a0 a1 b0 b1 c0 c1 d0 d1)) w) := kShape_ft p.kind p.c p.v p.item p.At p.Ae p.Ag p.Al _ _ _ _ _ _ _ _ a0 a1 b0 b1 c0 c1 d0 d1 w
theorem kShapeP_tf (p : KP) (a0 a1 b0 b1 c0 c1 d0 d1 : Int) (w : World) : Calls Try.prog 70 #[.agg p.cells, .bool true, .bool false, .agg #[.int .i64 a0, .int .i64 a1], .agg #[.int .i64 b0, .int .i64 b1], .agg #[.int .i64 c0, .int .i64 c1], .agg #[.int .i64 d0, .int .i64 d1]] w
    (RetV (.bool (shapeP p true false a0 a1 b0 b1 c0 c1 d0 d1)) w) := kShape_tf p.kind p.c p.v p.item p.At p.Ae p.Ag p.Al _ _ _ _ _ _ _ _ a0 a1 b0 b1 c0 c1 d0 d1 w
set_option maxRecDepth 100000 in
set_option maxHeartbeats 2000000 in
theorem k_nothing (k : KK) (n : Int) (p : KP) (B bc : Nat) (w : World) (hc : Chk w B bc k n) (hi : p.One w B) :
    Calls Try.prog 55 #[.pointer (some ⟨bc, 0, none⟩), .agg p.cells] w (RetV (.bool (shapeP p false false 0 0 0 0 0 0 0 0)) w) := by
  obtain ⟨W0, hW0⟩ : ∃ W, w.alloc (.cells p.cells 31) = W := ⟨_, rfl⟩
  have b0 : Blk W0 w.heap.size 31 p.cells := by rw [← hW0]; exact Blk.new w _ _
  have K0 : Below w.heap.size w W0 := by rw [← hW0]; exact (Below.refl _ _).alloc (Nat.le_refl _) _
  have hc0 := hc.call K0
  have hi0 := hi.below (K0.mono hc.leB)
  have HK0 := Lib.hid K0
  have HB0 := Lib.hid b0
  have HSh := Lib.hid (fun w1 => kShapeP_ff p 0 0 0 0 0 0 0 0 w1)
  generalize shapeP p false false 0 0 0 0 0 0 0 0 = sb at *
  simp only [KP.cells] at hW0 b0 HSh ⊢
  have e0 := b0.cell 0
  have e1 := b0.cell 1
  have e2 := b0.cell 2
  have e3 := b0.cell 3
  have e4 := b0.cell 4
  have e5 := b0.cell 5
  have e6 := b0.cell 6
  have e7 := b0.cell 7
  simp at e0 e1 e2 e3 e4 e5 e6 e7
  clear b0 K0 hc0 hi0 hc hi HB0
  go_enter Try.func55, Try.ntmps55
  go_wp2_with (go_at_call 70; (with_reducible refine (HSh.out _).mono ?_); rintro e1 w1 ⟨rfl, hb1⟩)
  go_ret
  exact ⟨rfl, HK0.out.trans (hb1.mono HK0.out.size)⟩
set_option maxRecDepth 100000 in
set_option maxHeartbeats 2000000 in
theorem k_seq (k : KK) (n : Int) (p : KP) (B bc : Nat) (w : World) (hc : Chk w B bc k n) (hi : p.One w B) :
    Calls Try.prog 62 #[.pointer (some ⟨bc, 0, none⟩), .agg p.cells] w (RetV (.bool (shapeP p false false 0 0 0 0 0 0 0 2048)) w) := by
  obtain ⟨W0, hW0⟩ : ∃ W, w.alloc (.cells p.cells 31) = W := ⟨_, rfl⟩
  have b0 : Blk W0 w.heap.size 31 p.cells := by rw [← hW0]; exact Blk.new w _ _
  have K0 : Below w.heap.size w W0 := by rw [← hW0]; exact (Below.refl _ _).alloc (Nat.le_refl _) _
  have hc0 := hc.call K0
  have hi0 := hi.below (K0.mono hc.leB)
  have HK0 := Lib.hid K0
  have HB0 := Lib.hid b0
  have HSh := Lib.hid (fun w1 => kShapeP_ff p 0 0 0 0 0 0 0 2048 w1)
  generalize shapeP p false false 0 0 0 0 0 0 0 2048 = sb at *
  simp only [KP.cells] at hW0 b0 HSh ⊢
  have e0 := b0.cell 0
  have e1 := b0.cell 1
  have e2 := b0.cell 2
  have e3 := b0.cell 3
  have e4 := b0.cell 4
  have e5 := b0.cell 5
  have e6 := b0.cell 6
  have e7 := b0.cell 7
  simp at e0 e1 e2 e3 e4 e5 e6 e7
  clear b0 K0 hc0 hi0 hc hi HB0
  go_enter Try.func62, Try.ntmps62
  go_wp2_with (go_at_call 70; (with_reducible refine (HSh.out _).mono ?_); rintro e1 w1 ⟨rfl, hb1⟩)
  go_ret
  exact ⟨rfl, HK0.out.trans (hb1.mono HK0.out.size)⟩
set_option maxRecDepth 100000 in
set_option maxHeartbeats 2000000 in
theorem k_par (k : KK) (n : Int) (p : KP) (B bc : Nat) (w : World) (hc : Chk w B bc k n) (hi : p.One w B) :
    Calls Try.prog 63 #[.pointer (some ⟨bc, 0, none⟩), .agg p.cells] w (RetV (.bool (shapeP p false false 0 0 0 0 0 0 0 16)) w) := by
  obtain ⟨W0, hW0⟩ : ∃ W, w.alloc (.cells p.cells 31) = W := ⟨_, rfl⟩
  have b0 : Blk W0 w.heap.size 31 p.cells := by rw [← hW0]; exact Blk.new w _ _
  have K0 : Below w.heap.size w W0 := by rw [← hW0]; exact (Below.refl _ _).alloc (Nat.le_refl _) _
  have hc0 := hc.call K0
  have hi0 := hi.below (K0.mono hc.leB)
  have HK0 := Lib.hid K0
  have HB0 := Lib.hid b0
  have HSh := Lib.hid (fun w1 => kShapeP_ff p 0 0 0 0 0 0 0 16 w1)
  generalize shapeP p false false 0 0 0 0 0 0 0 16 = sb at *
  simp only [KP.cells] at hW0 b0 HSh ⊢
  have e0 := b0.cell 0
  have e1 := b0.cell 1
  have e2 := b0.cell 2
  have e3 := b0.cell 3
  have e4 := b0.cell 4
  have e5 := b0.cell 5
  have e6 := b0.cell 6
  have e7 := b0.cell 7
  simp at e0 e1 e2 e3 e4 e5 e6 e7
  clear b0 K0 hc0 hi0 hc hi HB0
  go_enter Try.func63, Try.ntmps63
  go_wp2_with (go_at_call 70; (with_reducible refine (HSh.out _).mono ?_); rintro e1 w1 ⟨rfl, hb1⟩)
  go_ret
  exact ⟨rfl, HK0.out.trans (hb1.mono HK0.out.size)⟩
set_option maxRecDepth 100000 in
set_option maxHeartbeats 2000000 in
theorem k_pri (k : KK) (n : Int) (p : KP) (B bc : Nat) (w : World) (hc : Chk w B bc k n) (hi : p.One w B) :
    Calls Try.prog 64 #[.pointer (some ⟨bc, 0, none⟩), .agg p.cells] w (RetV (.bool (shapeP p false false 0 0 0 0 0 0 2 2)) w) := by
  obtain ⟨W0, hW0⟩ : ∃ W, w.alloc (.cells p.cells 31) = W := ⟨_, rfl⟩
  have b0 : Blk W0 w.heap.size 31 p.cells := by rw [← hW0]; exact Blk.new w _ _
  have K0 : Below w.heap.size w W0 := by rw [← hW0]; exact (Below.refl _ _).alloc (Nat.le_refl _) _
  have hc0 := hc.call K0
  have hi0 := hi.below (K0.mono hc.leB)
  have HK0 := Lib.hid K0
  have HB0 := Lib.hid b0
  have HSh := Lib.hid (fun w1 => kShapeP_ff p 0 0 0 0 0 0 2 2 w1)
  generalize shapeP p false false 0 0 0 0 0 0 2 2 = sb at *
  simp only [KP.cells] at hW0 b0 HSh ⊢
  have e0 := b0.cell 0
  have e1 := b0.cell 1
  have e2 := b0.cell 2
  have e3 := b0.cell 3
  have e4 := b0.cell 4
  have e5 := b0.cell 5
  have e6 := b0.cell 6
  have e7 := b0.cell 7
  simp at e0 e1 e2 e3 e4 e5 e6 e7
  clear b0 K0 hc0 hi0 hc hi HB0
  go_enter Try.func64, Try.ntmps64
  go_wp2_with (go_at_call 70; (with_reducible refine (HSh.out _).mono ?_); rintro e1 w1 ⟨rfl, hb1⟩)
  go_ret
  exact ⟨rfl, HK0.out.trans (hb1.mono HK0.out.size)⟩
set_option maxRecDepth 100000 in
set_option maxHeartbeats 4000000 in
theorem k_time (k : KK) (n : Int) (p : KP) (B bc : Nat) (w : World) (hc : Chk w B bc k n) (hi : p.One w B) :
    Calls Try.prog 60 #[.pointer (some ⟨bc, 0, none⟩), .agg p.cells] w (RetV (.bool (shapeP p false false 1 1 0 0 0 0 0 0 && placeA k.vars p.tos 1)) w) := by
  obtain ⟨W0, hW0⟩ : ∃ W, w.alloc (.cells p.cells 31) = W := ⟨_, rfl⟩
  have b0 : Blk W0 w.heap.size 31 p.cells := by rw [← hW0]; exact Blk.new w _ _
  have K0 : Below w.heap.size w W0 := by rw [← hW0]; exact (Below.refl _ _).alloc (Nat.le_refl _) _
  have hc0 := hc.call K0
  have hi0 := hi.below (K0.mono hc.leB)
  have HK0 := Lib.hid K0
  have HB0 := Lib.hid b0
  have HSh := Lib.hid (fun w1 => kShapeP_ff p 1 1 0 0 0 0 0 0 w1)
  cases hs : shapeP p false false 1 1 0 0 0 0 0 0 with
  | false =>
    rw [hs] at HSh
    rw [Bool.false_and]
    simp only [KP.cells] at hW0 b0 HSh ⊢
    have e0 := b0.cell 0
    have e1 := b0.cell 1
    have e2 := b0.cell 2
    have e3 := b0.cell 3
    have e4 := b0.cell 4
    have e5 := b0.cell 5
    have e6 := b0.cell 6
    have e7 := b0.cell 7
    simp at e0 e1 e2 e3 e4 e5 e6 e7
    clear b0 K0 hc0 hi0 hc hi HB0 hs
    go_enter Try.func60, Try.ntmps60
    go_wp2_with (go_at_call 70; (with_reducible refine (HSh.out _).mono ?_); rintro e1 w1 ⟨rfl, hb1⟩)
    go_ret
    exact ⟨rfl, HK0.out.trans (hb1.mono HK0.out.size)⟩
  | true =>
    rw [hs] at HSh
    rw [Bool.true_and]
    have hl := shapeP_len hs
    have hlen : p.tos.length = 1 := by omega
    obtain ⟨x, hx⟩ := len_one hlen
    have hp0 := hi0.2.1
    rw [hx] at hp0
    obtain ⟨b, off, y, hA, hb, hy, hin, c0, c1⟩ := kpls_at hp0 rfl (k := 0) (by simp)
    obtain rfl : x = y := by simpa using hy
    rw [Nat.zero_mul, Nat.add_zero] at c0 c1
    have hbw : b < W0.heap.size := Nat.lt_of_lt_of_le hb hc0.leB
    have HX := Lib.hid (fun (w1 : World) (h : Below W0.heap.size W0 w1) => (show Calls Try.prog 71 #[.pointer (some ⟨bc, 0, none⟩), .agg x.cells, .int .u8 1] w1 (RetV (.bool (placeB k.vars x 1)) w1) from kPlace k n x 1 B bc w1 (hc0.call h) (hin.below (h.mono hc0.leB))))
    have HRX := Lib.hid (show placeA k.vars p.tos 1 = placeB k.vars x 1 by rw [hx]; rfl)
    generalize placeA k.vars p.tos 1 = R at *
    generalize placeB k.vars x 1 = fx at *
    simp only [KP.cells, hlen, hA] at hW0 b0 HSh HB0 ⊢
    simp only [KPl.cells] at HX
    have e0 := b0.cell 0
    have e1 := b0.cell 1
    have e2 := b0.cell 2
    have e3 := b0.cell 3
    have e4 := b0.cell 4
    have e5 := b0.cell 5
    have e6 := b0.cell 6
    have e7 := b0.cell 7
    simp at e0 e1 e2 e3 e4 e5 e6 e7
    clear b0 K0 hc0 hi0 hc hi hs hl hx hp0 hy hin hA hlen
    go_enter Try.func60, Try.ntmps60
    go_wp2_with (first
      | (go_at_call 70; (with_reducible refine (HSh.out _).mono ?_); rintro e1 w1 ⟨rfl, hb1⟩
         have x1 := HB0.out.call hb1
         have f0 := x1.cell 0
         have f1 := x1.cell 1
         have f2 := x1.cell 2
         have f3 := x1.cell 3
         have f4 := x1.cell 4
         have f5 := x1.cell 5
         have f6 := x1.cell 6
         have f7 := x1.cell 7
         simp at f0 f1 f2 f3 f4 f5 f6 f7
         have rc0 := (hb1.cell (p := ⟨b, off, none⟩) hbw).trans c0
         have rc1 := (hb1.cell (p := ⟨b, off + 1, none⟩) hbw).trans c1
         have HB1 := Lib.hid hb1
         clear x1 hb1)
      | (go_at_call 71; (with_reducible refine (HX.out _ HB1.out).mono ?_); rintro e2 w2 ⟨rfl, hb2⟩))
    go_ret
    exact ⟨by rw [HRX.out]; rfl, HK0.out.trans ((HB1.out.trans (hb2.mono HB1.out.size)).mono HK0.out.size)⟩
set_option maxRecDepth 100000 in
set_option maxHeartbeats 4000000 in
theorem k_after (k : KK) (n : Int) (p : KP) (B bc : Nat) (w : World) (hc : Chk w B bc k n) (hi : p.One w B) :
    Calls Try.prog 61 #[.pointer (some ⟨bc, 0, none⟩), .agg p.cells] w (RetV (.bool (shapeP p false false 0 0 1 1 0 0 0 0 && FitsA k.vars p.e 1)) w) := by
  obtain ⟨W0, hW0⟩ : ∃ W, w.alloc (.cells p.cells 31) = W := ⟨_, rfl⟩
  have b0 : Blk W0 w.heap.size 31 p.cells := by rw [← hW0]; exact Blk.new w _ _
  have K0 : Below w.heap.size w W0 := by rw [← hW0]; exact (Below.refl _ _).alloc (Nat.le_refl _) _
  have hc0 := hc.call K0
  have hi0 := hi.below (K0.mono hc.leB)
  have HK0 := Lib.hid K0
  have HB0 := Lib.hid b0
  have HSh := Lib.hid (fun w1 => kShapeP_ff p 0 0 1 1 0 0 0 0 w1)
  cases hs : shapeP p false false 0 0 1 1 0 0 0 0 with
  | false =>
    rw [hs] at HSh
    rw [Bool.false_and]
    simp only [KP.cells] at hW0 b0 HSh ⊢
    have e0 := b0.cell 0
    have e1 := b0.cell 1
    have e2 := b0.cell 2
    have e3 := b0.cell 3
    have e4 := b0.cell 4
    have e5 := b0.cell 5
    have e6 := b0.cell 6
    have e7 := b0.cell 7
    simp at e0 e1 e2 e3 e4 e5 e6 e7
    clear b0 K0 hc0 hi0 hc hi HB0 hs
    go_enter Try.func61, Try.ntmps61
    go_wp2_with (go_at_call 70; (with_reducible refine (HSh.out _).mono ?_); rintro e1 w1 ⟨rfl, hb1⟩)
    go_ret
    exact ⟨rfl, HK0.out.trans (hb1.mono HK0.out.size)⟩
  | true =>
    rw [hs] at HSh
    rw [Bool.true_and]
    have hl := shapeP_len hs
    have hlen : p.e.length = 1 := by omega
    obtain ⟨x, hx⟩ := len_one hlen
    have hp0 := hi0.2.2.1
    rw [hx] at hp0
    obtain ⟨b, off, y, hA, hb, hy, hin, c0, c1, c2, c3, c4, c5⟩ := kes_six hp0 (k := 0) (by simp)
    obtain rfl : x = y := by simpa using hy
    rw [Nat.zero_mul, Nat.add_zero] at c0 c1 c2 c3 c4 c5
    have hbw : b < W0.heap.size := Nat.lt_of_lt_of_le hb hc0.leB
    have HX := Lib.hid (fun (w1 : World) (h : Below W0.heap.size W0 w1) => kFits1 k n x B bc w1 (hc0.call h) (hin.below (h.mono hc0.leB)))
    have HRX := Lib.hid (show FitsA k.vars p.e 1 = FitsB k.vars x 1 by rw [hx]; rfl)
    generalize FitsA k.vars p.e 1 = R at *
    generalize FitsB k.vars x 1 = fx at *
    simp only [KP.cells, hlen, hA] at hW0 b0 HSh HB0 ⊢
    simp only [KE.cells] at HX
    have e0 := b0.cell 0
    have e1 := b0.cell 1
    have e2 := b0.cell 2
    have e3 := b0.cell 3
    have e4 := b0.cell 4
    have e5 := b0.cell 5
    have e6 := b0.cell 6
    have e7 := b0.cell 7
    simp at e0 e1 e2 e3 e4 e5 e6 e7
    clear b0 K0 hc0 hi0 hc hi hs hl hx hp0 hy hin hA hlen
    go_enter Try.func61, Try.ntmps61
    go_wp2_with (first
      | (go_at_call 70; (with_reducible refine (HSh.out _).mono ?_); rintro e1 w1 ⟨rfl, hb1⟩
         have x1 := HB0.out.call hb1
         have f0 := x1.cell 0
         have f1 := x1.cell 1
         have f2 := x1.cell 2
         have f3 := x1.cell 3
         have f4 := x1.cell 4
         have f5 := x1.cell 5
         have f6 := x1.cell 6
         have f7 := x1.cell 7
         simp at f0 f1 f2 f3 f4 f5 f6 f7
         have rc0 := (hb1.cell (p := ⟨b, off, none⟩) hbw).trans c0
         have rc1 := (hb1.cell (p := ⟨b, off + 1, none⟩) hbw).trans c1
         have rc2 := (hb1.cell (p := ⟨b, off + 2, none⟩) hbw).trans c2
         have rc3 := (hb1.cell (p := ⟨b, off + 3, none⟩) hbw).trans c3
         have rc4 := (hb1.cell (p := ⟨b, off + 4, none⟩) hbw).trans c4
         have rc5 := (hb1.cell (p := ⟨b, off + 5, none⟩) hbw).trans c5
         have HB1 := Lib.hid hb1
         clear x1 hb1)
      | (go_at_call 72; (with_reducible refine (HX.out _ HB1.out).mono ?_); rintro e2 w2 ⟨rfl, hb2⟩))
    go_ret
    exact ⟨by rw [HRX.out]; rfl, HK0.out.trans ((HB1.out.trans (hb2.mono HB1.out.size)).mono HK0.out.size)⟩
set_option maxRecDepth 100000 in
set_option maxHeartbeats 4000000 in
theorem k_loop (k : KK) (n : Int) (p : KP) (B bc : Nat) (w : World) (hc : Chk w B bc k n) (hi : p.One w B) :
    Calls Try.prog 66 #[.pointer (some ⟨bc, 0, none⟩), .agg p.cells] w (RetV (.bool (shapeP p false false 0 0 1 1 0 0 1 1 && FitsA k.vars p.e 3)) w) := by
  obtain ⟨W0, hW0⟩ : ∃ W, w.alloc (.cells p.cells 31) = W := ⟨_, rfl⟩
  have b0 : Blk W0 w.heap.size 31 p.cells := by rw [← hW0]; exact Blk.new w _ _
  have K0 : Below w.heap.size w W0 := by rw [← hW0]; exact (Below.refl _ _).alloc (Nat.le_refl _) _
  have hc0 := hc.call K0
  have hi0 := hi.below (K0.mono hc.leB)
  have HK0 := Lib.hid K0
  have HB0 := Lib.hid b0
  have HSh := Lib.hid (fun w1 => kShapeP_ff p 0 0 1 1 0 0 1 1 w1)
  cases hs : shapeP p false false 0 0 1 1 0 0 1 1 with
  | false =>
    rw [hs] at HSh
    rw [Bool.false_and]
    simp only [KP.cells] at hW0 b0 HSh ⊢
    have e0 := b0.cell 0
    have e1 := b0.cell 1
    have e2 := b0.cell 2
    have e3 := b0.cell 3
    have e4 := b0.cell 4
    have e5 := b0.cell 5
    have e6 := b0.cell 6
    have e7 := b0.cell 7
    simp at e0 e1 e2 e3 e4 e5 e6 e7
    clear b0 K0 hc0 hi0 hc hi HB0 hs
    go_enter Try.func66, Try.ntmps66
    go_wp2_with (go_at_call 70; (with_reducible refine (HSh.out _).mono ?_); rintro e1 w1 ⟨rfl, hb1⟩)
    go_ret
    exact ⟨rfl, HK0.out.trans (hb1.mono HK0.out.size)⟩
  | true =>
    rw [hs] at HSh
    rw [Bool.true_and]
    have hl := shapeP_len hs
    have hlen : p.e.length = 1 := by omega
    obtain ⟨x, hx⟩ := len_one hlen
    have hp0 := hi0.2.2.1
    rw [hx] at hp0
    obtain ⟨b, off, y, hA, hb, hy, hin, c0, c1, c2, c3, c4, c5⟩ := kes_six hp0 (k := 0) (by simp)
    obtain rfl : x = y := by simpa using hy
    rw [Nat.zero_mul, Nat.add_zero] at c0 c1 c2 c3 c4 c5
    have hbw : b < W0.heap.size := Nat.lt_of_lt_of_le hb hc0.leB
    have HX := Lib.hid (fun (w1 : World) (h : Below W0.heap.size W0 w1) => kFits3 k n x B bc w1 (hc0.call h) (hin.below (h.mono hc0.leB)))
    have HRX := Lib.hid (show FitsA k.vars p.e 3 = FitsB k.vars x 3 by rw [hx]; rfl)
    generalize FitsA k.vars p.e 3 = R at *
    generalize FitsB k.vars x 3 = fx at *
    simp only [KP.cells, hlen, hA] at hW0 b0 HSh HB0 ⊢
    simp only [KE.cells] at HX
    have e0 := b0.cell 0
    have e1 := b0.cell 1
    have e2 := b0.cell 2
    have e3 := b0.cell 3
    have e4 := b0.cell 4
    have e5 := b0.cell 5
    have e6 := b0.cell 6
    have e7 := b0.cell 7
    simp at e0 e1 e2 e3 e4 e5 e6 e7
    clear b0 K0 hc0 hi0 hc hi hs hl hx hp0 hy hin hA hlen
    go_enter Try.func66, Try.ntmps66
    go_wp2_with (first
      | (go_at_call 70; (with_reducible refine (HSh.out _).mono ?_); rintro e1 w1 ⟨rfl, hb1⟩
         have x1 := HB0.out.call hb1
         have f0 := x1.cell 0
         have f1 := x1.cell 1
         have f2 := x1.cell 2
         have f3 := x1.cell 3
         have f4 := x1.cell 4
         have f5 := x1.cell 5
         have f6 := x1.cell 6
         have f7 := x1.cell 7
         simp at f0 f1 f2 f3 f4 f5 f6 f7
         have rc0 := (hb1.cell (p := ⟨b, off, none⟩) hbw).trans c0
         have rc1 := (hb1.cell (p := ⟨b, off + 1, none⟩) hbw).trans c1
         have rc2 := (hb1.cell (p := ⟨b, off + 2, none⟩) hbw).trans c2
         have rc3 := (hb1.cell (p := ⟨b, off + 3, none⟩) hbw).trans c3
         have rc4 := (hb1.cell (p := ⟨b, off + 4, none⟩) hbw).trans c4
         have rc5 := (hb1.cell (p := ⟨b, off + 5, none⟩) hbw).trans c5
         have HB1 := Lib.hid hb1
         clear x1 hb1)
      | (go_at_call 72; (with_reducible refine (HX.out _ HB1.out).mono ?_); rintro e2 w2 ⟨rfl, hb2⟩))
    go_ret
    exact ⟨by rw [HRX.out]; rfl, HK0.out.trans ((HB1.out.trans (hb2.mono HB1.out.size)).mono HK0.out.size)⟩
end Go.Proofs.Ytekamebpjjkifaa
