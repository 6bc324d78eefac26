/- Texts that belong together, joined: what each one holds is told ahead of it. -/
import Derived.Test.YtbefmlioampgcaaGreatDoorHK38
set_option linter.unusedVariables false
set_option linter.unusedSimpArgs false
/- The document's words on the kinds that an expression fits, walked: fits of what has parts. -/
namespace Go.Proofs.YtbefmlioampgcaaGreatDoor
open Go.RowKit
set_option linter.unusedSimpArgs false
set_option linter.unusedVariables false

/-- What is known of a part: fits of it, in each world behind w. -/
def PartF (vs : List KVar) (Av : Option Addr) (cv nv : Nat) (w : World) (y : KE) (q : Int) (p : Bool) : Prop :=
  ∀ w1 : World, Below w.heap.size w w1 → Calls Tryz.prog 36 #[.slice Av nv cv, .agg #[.int .u8 y.kind, .int .u8 y.oper, .int .u8 y.tk, .int .i32 y.n, .int .i64 y.v, .slice y.A y.l.length y.c], .int .u8 q] w1 (RetV (.bool p) w1)
theorem PartF.of {vs : List KVar} {Av : Option Addr} {cv B : Nat} {w : World} {y : KE} (h : RFitsOk vs y) (q : Int) (hq : q = 1 ∨ q = 2 ∨ q = 3) (hr : Reads w B 2 Av vs.length (varsC vs)) (hl : vs.length ≤ 256) (hi : y.In w B) (hB : B ≤ w.heap.size) :
    PartF vs Av cv vs.length w y q (fitsZ vs y q) := fun w1 hb => h q hq Av cv B w1 (hr.below (hb.mono hB)) hl (hi.below (hb.mono hB)) (Nat.le_trans hB hb.size)
def BothF (vs : List KVar) (Av : Option Addr) (cv nv : Nat) (w : World) (cs : Array Value) (q : Int) (p : Bool) : Prop :=
  ∀ w1 : World, Below w.heap.size w w1 → Calls Tryz.prog 56 #[.slice Av nv cv, .agg cs, .int .u8 q] w1 (RetV (.bool p) w1)
section
variable {vs : List KVar} {Av : Option Addr} {cv nv : Nat} {w : World} {o t c b off : Nat} {n v q : Int} {y z : KE} {p1 p2 p3 : Bool}
set_option maxRecDepth 100000 in
set_option maxHeartbeats 4000000 in
theorem rFits_conv (hb : b < w.heap.size) (hy : RowE w b off y) (hq : q = 1 ∨ q = 2 ∨ q = 3) (H1 : Hid (PartF vs Av cv nv w y 1 p1)) (H2 : Hid (PartF vs Av cv nv w y 2 p2)) (H3 : Hid (PartF vs Av cv nv w y 3 p3)) :
    Calls Tryz.prog 36 #[.slice Av nv cv, .agg #[.int .u8 6, .int .u8 o, .int .u8 t, .int .i32 n, .int .i64 v, .slice (some ⟨b, off, none⟩) 1 c], .int .u8 q] w (RetV (.bool ((t : Int) == q && (p1 || p2 || p3))) w) := by
  obtain ⟨W0, hW0⟩ : ∃ W, w.alloc (.cells #[.int .u8 6, .int .u8 o, .int .u8 t, .int .i32 n, .int .i64 v, .slice (some ⟨b, off, none⟩) 1 c] 27) = W := ⟨_, rfl⟩
  have b0 : Blk W0 w.heap.size 27 #[.int .u8 6, .int .u8 o, .int .u8 t, .int .i32 n, .int .i64 v, .slice (some ⟨b, off, none⟩) 1 c] := by rw [← hW0]; exact Blk.new w _ _
  have K0 : Below w.heap.size w W0 := by rw [← hW0]; exact (Below.refl _ _).alloc (Nat.le_refl _) _
  have S : Hid (FtAt w W0 #[.int .u8 6, .int .u8 o, .int .u8 t, .int .i32 n, .int .i64 v, .slice (some ⟨b, off, none⟩) 1 c] 0 b off y) := Lib.hid ⟨K0, b0, hy.below K0 hb, hb⟩
  obtain ⟨c0, c1, c2, c3, c4, c5⟩ := S.out.row.six
  have e0 := b0.cell 0
  have e1 := b0.cell 1
  have e2 := b0.cell 2
  have e3 := b0.cell 3
  have e4 := b0.cell 4
  have e5 := b0.cell 5
  simp at e0 e1 e2 e3 e4 e5
  clear b0 K0 hy
  unfold PartF at *
  obtain ⟨d, hd⟩ : ∃ d : Bool, ((t : Int) == q) = d := ⟨_, rfl⟩
  rw [hd]
  rcases hq with rfl | rfl | rfl <;> cases d <;> cases p1 <;> cases p2
  all_goals
    go_enter Tryz.func36, Tryz.ntmps36
    go_wp2_with (first
      | (go_at_call 36; (with_reducible refine (H1.out _ S.out.bel).mono ?_); rintro e1 w1 ⟨rfl, hb1⟩
         replace S := Lib.hid (S.out.call hb1)
         obtain ⟨c0, c1, c2, c3, c4, c5⟩ := S.out.row.six
         have x0 := S.out.box
         have e0 := x0.cell 0
         have e1 := x0.cell 1
         have e2 := x0.cell 2
         have e3 := x0.cell 3
         have e4 := x0.cell 4
         have e5 := x0.cell 5
         simp at e0 e1 e2 e3 e4 e5
         clear x0 hb1)
      | (go_at_call 36; (with_reducible refine (H2.out _ S.out.bel).mono ?_); rintro e1 w1 ⟨rfl, hb1⟩
         replace S := Lib.hid (S.out.call hb1)
         obtain ⟨c0, c1, c2, c3, c4, c5⟩ := S.out.row.six
         have x0 := S.out.box
         have e0 := x0.cell 0
         have e1 := x0.cell 1
         have e2 := x0.cell 2
         have e3 := x0.cell 3
         have e4 := x0.cell 4
         have e5 := x0.cell 5
         simp at e0 e1 e2 e3 e4 e5
         clear x0 hb1)
      | (go_at_call 36; (with_reducible refine (H3.out _ S.out.bel).mono ?_); rintro e1 w1 ⟨rfl, hb1⟩
         replace S := Lib.hid (S.out.call hb1)
         obtain ⟨c0, c1, c2, c3, c4, c5⟩ := S.out.row.six
         have x0 := S.out.box
         have e0 := x0.cell 0
         have e1 := x0.cell 1
         have e2 := x0.cell 2
         have e3 := x0.cell 3
         have e4 := x0.cell 4
         have e5 := x0.cell 5
         simp at e0 e1 e2 e3 e4 e5
         clear x0 hb1))
    all_goals (go_ret; exact ⟨by refine ret_bool rfl ?_; simp, S.out.bel⟩)
set_option maxRecDepth 100000 in
set_option maxHeartbeats 4000000 in
theorem rFits_mon (hb : b < w.heap.size) (hy : RowE w b off y) (hq : q = 1 ∨ q = 2 ∨ q = 3) (ho : 23 ≤ o ∧ o ≤ 26) (H1 : Hid (PartF vs Av cv nv w y 1 p1)) (H3 : Hid (PartF vs Av cv nv w y 3 p3)) :
    Calls Tryz.prog 36 #[.slice Av nv cv, .agg #[.int .u8 4, .int .u8 o, .int .u8 t, .int .i32 n, .int .i64 v, .slice (some ⟨b, off, none⟩) 1 c], .int .u8 q] w (RetV (.bool (if decide (o = 26) = true then q == 3 && p3 else q == 1 && p1)) w) := by
  obtain ⟨W0, hW0⟩ : ∃ W, w.alloc (.cells #[.int .u8 4, .int .u8 o, .int .u8 t, .int .i32 n, .int .i64 v, .slice (some ⟨b, off, none⟩) 1 c] 27) = W := ⟨_, rfl⟩
  have b0 : Blk W0 w.heap.size 27 #[.int .u8 4, .int .u8 o, .int .u8 t, .int .i32 n, .int .i64 v, .slice (some ⟨b, off, none⟩) 1 c] := by rw [← hW0]; exact Blk.new w _ _
  have K0 : Below w.heap.size w W0 := by rw [← hW0]; exact (Below.refl _ _).alloc (Nat.le_refl _) _
  have S : Hid (FtAt w W0 #[.int .u8 4, .int .u8 o, .int .u8 t, .int .i32 n, .int .i64 v, .slice (some ⟨b, off, none⟩) 1 c] 0 b off y) := Lib.hid ⟨K0, b0, hy.below K0 hb, hb⟩
  obtain ⟨c0, c1, c2, c3, c4, c5⟩ := S.out.row.six
  have e0 := b0.cell 0
  have e1 := b0.cell 1
  have e2 := b0.cell 2
  have e3 := b0.cell 3
  have e4 := b0.cell 4
  have e5 := b0.cell 5
  simp at e0 e1 e2 e3 e4 e5
  clear b0 K0 hy
  unfold PartF at *
  obtain ⟨d, hd⟩ : ∃ d : Bool, d = decide (o = 26) := ⟨_, rfl⟩
  have hd2 : ((o : Int) == 26) = d := by rw [hd, Bool.eq_iff_iff]; simp; omega
  rw [← hd]
  clear hd ho
  rcases hq with rfl | rfl | rfl <;> cases d
  all_goals
    go_enter Tryz.func36, Tryz.ntmps36
    go_wp2_with (first
      | (go_at_call 36; (with_reducible refine (H1.out _ S.out.bel).mono ?_); rintro e1 w1 ⟨rfl, hb1⟩
         replace S := Lib.hid (S.out.call hb1)
         obtain ⟨c0, c1, c2, c3, c4, c5⟩ := S.out.row.six
         have x0 := S.out.box
         have e0 := x0.cell 0
         have e1 := x0.cell 1
         have e2 := x0.cell 2
         have e3 := x0.cell 3
         have e4 := x0.cell 4
         have e5 := x0.cell 5
         simp at e0 e1 e2 e3 e4 e5
         clear x0 hb1)
      | (go_at_call 36; (with_reducible refine (H3.out _ S.out.bel).mono ?_); rintro e1 w1 ⟨rfl, hb1⟩
         replace S := Lib.hid (S.out.call hb1)
         obtain ⟨c0, c1, c2, c3, c4, c5⟩ := S.out.row.six
         have x0 := S.out.box
         have e0 := x0.cell 0
         have e1 := x0.cell 1
         have e2 := x0.cell 2
         have e3 := x0.cell 3
         have e4 := x0.cell 4
         have e5 := x0.cell 5
         simp at e0 e1 e2 e3 e4 e5
         clear x0 hb1))
    all_goals (go_ret; exact ⟨by refine ret_bool rfl ?_; simp, S.out.bel⟩)
set_option maxRecDepth 100000 in
set_option maxHeartbeats 4000000 in
theorem rFits_dy13 (hb : b < w.heap.size) (hy : RowE w b off y) (hq : q = 1 ∨ q = 2 ∨ q = 3) (ho : o ≤ 13) (G1 : Hid (BothF vs Av cv nv w #[.int .u8 5, .int .u8 o, .int .u8 t, .int .i32 n, .int .i64 v, .slice (some ⟨b, off, none⟩) 2 c] 1 p1)) :
    Calls Tryz.prog 36 #[.slice Av nv cv, .agg #[.int .u8 5, .int .u8 o, .int .u8 t, .int .i32 n, .int .i64 v, .slice (some ⟨b, off, none⟩) 2 c], .int .u8 q] w (RetV (.bool (q == 1 && p1)) w) := by
  obtain ⟨W0, hW0⟩ : ∃ W, w.alloc (.cells #[.int .u8 5, .int .u8 o, .int .u8 t, .int .i32 n, .int .i64 v, .slice (some ⟨b, off, none⟩) 2 c] 27) = W := ⟨_, rfl⟩
  have b0 : Blk W0 w.heap.size 27 #[.int .u8 5, .int .u8 o, .int .u8 t, .int .i32 n, .int .i64 v, .slice (some ⟨b, off, none⟩) 2 c] := by rw [← hW0]; exact Blk.new w _ _
  have K0 : Below w.heap.size w W0 := by rw [← hW0]; exact (Below.refl _ _).alloc (Nat.le_refl _) _
  have S : Hid (FtAt w W0 #[.int .u8 5, .int .u8 o, .int .u8 t, .int .i32 n, .int .i64 v, .slice (some ⟨b, off, none⟩) 2 c] 0 b off y) := Lib.hid ⟨K0, b0, hy.below K0 hb, hb⟩
  obtain ⟨c0, c1, c2, c3, c4, c5⟩ := S.out.row.six
  have e0 := b0.cell 0
  have e1 := b0.cell 1
  have e2 := b0.cell 2
  have e3 := b0.cell 3
  have e4 := b0.cell 4
  have e5 := b0.cell 5
  simp at e0 e1 e2 e3 e4 e5
  clear b0 K0 hy
  unfold BothF at *
  have f13 : (o : Int) ≤ 13 := by omega
  clear ho
  rcases hq with rfl | rfl | rfl
  all_goals
    go_enter Tryz.func36, Tryz.ntmps36
    go_wp2_with (first
      | (go_at_call 56; (with_reducible refine (G1.out _ S.out.bel).mono ?_); rintro e1 w1 ⟨rfl, hb1⟩
         replace S := Lib.hid (S.out.call hb1)
         obtain ⟨c0, c1, c2, c3, c4, c5⟩ := S.out.row.six
         have x0 := S.out.box
         have e0 := x0.cell 0
         have e1 := x0.cell 1
         have e2 := x0.cell 2
         have e3 := x0.cell 3
         have e4 := x0.cell 4
         have e5 := x0.cell 5
         simp at e0 e1 e2 e3 e4 e5
         clear x0 hb1))
    all_goals (go_ret; exact ⟨by refine ret_bool rfl ?_; simp, S.out.bel⟩)
set_option maxRecDepth 100000 in
set_option maxHeartbeats 4000000 in
theorem rFits_dyN (hb : b < w.heap.size) (hy : RowE w b off y) (hq : q = 1 ∨ q = 2) (ho : ¬ o ≤ 13) :
    Calls Tryz.prog 36 #[.slice Av nv cv, .agg #[.int .u8 5, .int .u8 o, .int .u8 t, .int .i32 n, .int .i64 v, .slice (some ⟨b, off, none⟩) 2 c], .int .u8 q] w (RetV (.bool (false)) w) := by
  obtain ⟨W0, hW0⟩ : ∃ W, w.alloc (.cells #[.int .u8 5, .int .u8 o, .int .u8 t, .int .i32 n, .int .i64 v, .slice (some ⟨b, off, none⟩) 2 c] 27) = W := ⟨_, rfl⟩
  have b0 : Blk W0 w.heap.size 27 #[.int .u8 5, .int .u8 o, .int .u8 t, .int .i32 n, .int .i64 v, .slice (some ⟨b, off, none⟩) 2 c] := by rw [← hW0]; exact Blk.new w _ _
  have K0 : Below w.heap.size w W0 := by rw [← hW0]; exact (Below.refl _ _).alloc (Nat.le_refl _) _
  have S : Hid (FtAt w W0 #[.int .u8 5, .int .u8 o, .int .u8 t, .int .i32 n, .int .i64 v, .slice (some ⟨b, off, none⟩) 2 c] 0 b off y) := Lib.hid ⟨K0, b0, hy.below K0 hb, hb⟩
  obtain ⟨c0, c1, c2, c3, c4, c5⟩ := S.out.row.six
  have e0 := b0.cell 0
  have e1 := b0.cell 1
  have e2 := b0.cell 2
  have e3 := b0.cell 3
  have e4 := b0.cell 4
  have e5 := b0.cell 5
  simp at e0 e1 e2 e3 e4 e5
  clear b0 K0 hy
  have f13 : ¬ (o : Int) ≤ 13 := by omega
  clear ho
  rcases hq with rfl | rfl
  all_goals
    go_enter Tryz.func36, Tryz.ntmps36
    go_wp2_with (first
      | fail)
    all_goals (go_ret; exact ⟨by refine ret_bool rfl ?_; rfl, S.out.bel⟩)
set_option maxRecDepth 100000 in
set_option maxHeartbeats 4000000 in
theorem rFits_dyE (hb : b < w.heap.size) (hy : RowE w b off y) (hq : q = 3) (ho : o = 14 ∨ o = 15) (G1 : Hid (BothF vs Av cv nv w #[.int .u8 5, .int .u8 o, .int .u8 t, .int .i32 n, .int .i64 v, .slice (some ⟨b, off, none⟩) 2 c] 1 p1)) (G2 : Hid (BothF vs Av cv nv w #[.int .u8 5, .int .u8 o, .int .u8 t, .int .i32 n, .int .i64 v, .slice (some ⟨b, off, none⟩) 2 c] 2 p2)) (G3 : Hid (BothF vs Av cv nv w #[.int .u8 5, .int .u8 o, .int .u8 t, .int .i32 n, .int .i64 v, .slice (some ⟨b, off, none⟩) 2 c] 3 p3)) :
    Calls Tryz.prog 36 #[.slice Av nv cv, .agg #[.int .u8 5, .int .u8 o, .int .u8 t, .int .i32 n, .int .i64 v, .slice (some ⟨b, off, none⟩) 2 c], .int .u8 q] w (RetV (.bool (p1 || p2 || p3)) w) := by
  obtain ⟨W0, hW0⟩ : ∃ W, w.alloc (.cells #[.int .u8 5, .int .u8 o, .int .u8 t, .int .i32 n, .int .i64 v, .slice (some ⟨b, off, none⟩) 2 c] 27) = W := ⟨_, rfl⟩
  have b0 : Blk W0 w.heap.size 27 #[.int .u8 5, .int .u8 o, .int .u8 t, .int .i32 n, .int .i64 v, .slice (some ⟨b, off, none⟩) 2 c] := by rw [← hW0]; exact Blk.new w _ _
  have K0 : Below w.heap.size w W0 := by rw [← hW0]; exact (Below.refl _ _).alloc (Nat.le_refl _) _
  have S : Hid (FtAt w W0 #[.int .u8 5, .int .u8 o, .int .u8 t, .int .i32 n, .int .i64 v, .slice (some ⟨b, off, none⟩) 2 c] 0 b off y) := Lib.hid ⟨K0, b0, hy.below K0 hb, hb⟩
  obtain ⟨c0, c1, c2, c3, c4, c5⟩ := S.out.row.six
  have e0 := b0.cell 0
  have e1 := b0.cell 1
  have e2 := b0.cell 2
  have e3 := b0.cell 3
  have e4 := b0.cell 4
  have e5 := b0.cell 5
  simp at e0 e1 e2 e3 e4 e5
  clear b0 K0 hy
  unfold BothF at *
  subst hq
  have f13 : ¬ (o : Int) ≤ 13 := by omega
  obtain ⟨d, hd⟩ : ∃ d : Bool, ((o : Int) == 14) = d := ⟨_, rfl⟩
  have hd2 : d = false → ((o : Int) == 15) = true := by rintro rfl; simp at hd ⊢; omega
  clear ho
  cases d
  · have f15 := hd2 rfl
    clear hd2
    cases p1 <;> cases p2
    all_goals
      go_enter Tryz.func36, Tryz.ntmps36
      go_wp2_with (first
        | (go_at_call 56; (with_reducible refine (G1.out _ S.out.bel).mono ?_); rintro e1 w1 ⟨rfl, hb1⟩
           replace S := Lib.hid (S.out.call hb1)
           obtain ⟨c0, c1, c2, c3, c4, c5⟩ := S.out.row.six
           have x0 := S.out.box
           have e0 := x0.cell 0
           have e1 := x0.cell 1
           have e2 := x0.cell 2
           have e3 := x0.cell 3
           have e4 := x0.cell 4
           have e5 := x0.cell 5
           simp at e0 e1 e2 e3 e4 e5
           clear x0 hb1)
        | (go_at_call 56; (with_reducible refine (G2.out _ S.out.bel).mono ?_); rintro e1 w1 ⟨rfl, hb1⟩
           replace S := Lib.hid (S.out.call hb1)
           obtain ⟨c0, c1, c2, c3, c4, c5⟩ := S.out.row.six
           have x0 := S.out.box
           have e0 := x0.cell 0
           have e1 := x0.cell 1
           have e2 := x0.cell 2
           have e3 := x0.cell 3
           have e4 := x0.cell 4
           have e5 := x0.cell 5
           simp at e0 e1 e2 e3 e4 e5
           clear x0 hb1)
        | (go_at_call 56; (with_reducible refine (G3.out _ S.out.bel).mono ?_); rintro e1 w1 ⟨rfl, hb1⟩
           replace S := Lib.hid (S.out.call hb1)
           obtain ⟨c0, c1, c2, c3, c4, c5⟩ := S.out.row.six
           have x0 := S.out.box
           have e0 := x0.cell 0
           have e1 := x0.cell 1
           have e2 := x0.cell 2
           have e3 := x0.cell 3
           have e4 := x0.cell 4
           have e5 := x0.cell 5
           simp at e0 e1 e2 e3 e4 e5
           clear x0 hb1))
      all_goals (go_ret; exact ⟨by refine ret_bool rfl ?_; simp, S.out.bel⟩)
  · clear hd2
    cases p1 <;> cases p2
    all_goals
      go_enter Tryz.func36, Tryz.ntmps36
      go_wp2_with (first
        | (go_at_call 56; (with_reducible refine (G1.out _ S.out.bel).mono ?_); rintro e1 w1 ⟨rfl, hb1⟩
           replace S := Lib.hid (S.out.call hb1)
           obtain ⟨c0, c1, c2, c3, c4, c5⟩ := S.out.row.six
           have x0 := S.out.box
           have e0 := x0.cell 0
           have e1 := x0.cell 1
           have e2 := x0.cell 2
           have e3 := x0.cell 3
           have e4 := x0.cell 4
           have e5 := x0.cell 5
           simp at e0 e1 e2 e3 e4 e5
           clear x0 hb1)
        | (go_at_call 56; (with_reducible refine (G2.out _ S.out.bel).mono ?_); rintro e1 w1 ⟨rfl, hb1⟩
           replace S := Lib.hid (S.out.call hb1)
           obtain ⟨c0, c1, c2, c3, c4, c5⟩ := S.out.row.six
           have x0 := S.out.box
           have e0 := x0.cell 0
           have e1 := x0.cell 1
           have e2 := x0.cell 2
           have e3 := x0.cell 3
           have e4 := x0.cell 4
           have e5 := x0.cell 5
           simp at e0 e1 e2 e3 e4 e5
           clear x0 hb1)
        | (go_at_call 56; (with_reducible refine (G3.out _ S.out.bel).mono ?_); rintro e1 w1 ⟨rfl, hb1⟩
           replace S := Lib.hid (S.out.call hb1)
           obtain ⟨c0, c1, c2, c3, c4, c5⟩ := S.out.row.six
           have x0 := S.out.box
           have e0 := x0.cell 0
           have e1 := x0.cell 1
           have e2 := x0.cell 2
           have e3 := x0.cell 3
           have e4 := x0.cell 4
           have e5 := x0.cell 5
           simp at e0 e1 e2 e3 e4 e5
           clear x0 hb1))
      all_goals (go_ret; exact ⟨by refine ret_bool rfl ?_; simp, S.out.bel⟩)
set_option maxRecDepth 100000 in
set_option maxHeartbeats 4000000 in
theorem rFits_dyL (hb : b < w.heap.size) (hy : RowE w b off y) (hq : q = 3) (ho : 16 ≤ o ∧ o ≤ 19) (G1 : Hid (BothF vs Av cv nv w #[.int .u8 5, .int .u8 o, .int .u8 t, .int .i32 n, .int .i64 v, .slice (some ⟨b, off, none⟩) 2 c] 1 p1)) (G2 : Hid (BothF vs Av cv nv w #[.int .u8 5, .int .u8 o, .int .u8 t, .int .i32 n, .int .i64 v, .slice (some ⟨b, off, none⟩) 2 c] 2 p2)) :
    Calls Tryz.prog 36 #[.slice Av nv cv, .agg #[.int .u8 5, .int .u8 o, .int .u8 t, .int .i32 n, .int .i64 v, .slice (some ⟨b, off, none⟩) 2 c], .int .u8 q] w (RetV (.bool (p1 || p2)) w) := by
  obtain ⟨W0, hW0⟩ : ∃ W, w.alloc (.cells #[.int .u8 5, .int .u8 o, .int .u8 t, .int .i32 n, .int .i64 v, .slice (some ⟨b, off, none⟩) 2 c] 27) = W := ⟨_, rfl⟩
  have b0 : Blk W0 w.heap.size 27 #[.int .u8 5, .int .u8 o, .int .u8 t, .int .i32 n, .int .i64 v, .slice (some ⟨b, off, none⟩) 2 c] := by rw [← hW0]; exact Blk.new w _ _
  have K0 : Below w.heap.size w W0 := by rw [← hW0]; exact (Below.refl _ _).alloc (Nat.le_refl _) _
  have S : Hid (FtAt w W0 #[.int .u8 5, .int .u8 o, .int .u8 t, .int .i32 n, .int .i64 v, .slice (some ⟨b, off, none⟩) 2 c] 0 b off y) := Lib.hid ⟨K0, b0, hy.below K0 hb, hb⟩
  obtain ⟨c0, c1, c2, c3, c4, c5⟩ := S.out.row.six
  have e0 := b0.cell 0
  have e1 := b0.cell 1
  have e2 := b0.cell 2
  have e3 := b0.cell 3
  have e4 := b0.cell 4
  have e5 := b0.cell 5
  simp at e0 e1 e2 e3 e4 e5
  clear b0 K0 hy
  unfold BothF at *
  subst hq
  have f13 : ¬ (o : Int) ≤ 13 := by omega
  have f14 : ((o : Int) == 14) = false := by simp; omega
  have f15 : ((o : Int) == 15) = false := by simp; omega
  have f19 : (o : Int) ≤ 19 := by omega
  clear ho
  cases p1
  all_goals
    go_enter Tryz.func36, Tryz.ntmps36
    go_wp2_with (first
      | (go_at_call 56; (with_reducible refine (G1.out _ S.out.bel).mono ?_); rintro e1 w1 ⟨rfl, hb1⟩
         replace S := Lib.hid (S.out.call hb1)
         obtain ⟨c0, c1, c2, c3, c4, c5⟩ := S.out.row.six
         have x0 := S.out.box
         have e0 := x0.cell 0
         have e1 := x0.cell 1
         have e2 := x0.cell 2
         have e3 := x0.cell 3
         have e4 := x0.cell 4
         have e5 := x0.cell 5
         simp at e0 e1 e2 e3 e4 e5
         clear x0 hb1)
      | (go_at_call 56; (with_reducible refine (G2.out _ S.out.bel).mono ?_); rintro e1 w1 ⟨rfl, hb1⟩
         replace S := Lib.hid (S.out.call hb1)
         obtain ⟨c0, c1, c2, c3, c4, c5⟩ := S.out.row.six
         have x0 := S.out.box
         have e0 := x0.cell 0
         have e1 := x0.cell 1
         have e2 := x0.cell 2
         have e3 := x0.cell 3
         have e4 := x0.cell 4
         have e5 := x0.cell 5
         simp at e0 e1 e2 e3 e4 e5
         clear x0 hb1))
    all_goals (go_ret; exact ⟨by refine ret_bool rfl ?_; simp, S.out.bel⟩)
set_option maxRecDepth 100000 in
set_option maxHeartbeats 4000000 in
theorem rFits_dyA (hb : b < w.heap.size) (hy : RowE w b off y) (hq : q = 3) (ho : o = 22) (G1 : Hid (BothF vs Av cv nv w #[.int .u8 5, .int .u8 o, .int .u8 t, .int .i32 n, .int .i64 v, .slice (some ⟨b, off, none⟩) 2 c] 1 p1)) :
    Calls Tryz.prog 36 #[.slice Av nv cv, .agg #[.int .u8 5, .int .u8 o, .int .u8 t, .int .i32 n, .int .i64 v, .slice (some ⟨b, off, none⟩) 2 c], .int .u8 q] w (RetV (.bool (p1)) w) := by
  obtain ⟨W0, hW0⟩ : ∃ W, w.alloc (.cells #[.int .u8 5, .int .u8 o, .int .u8 t, .int .i32 n, .int .i64 v, .slice (some ⟨b, off, none⟩) 2 c] 27) = W := ⟨_, rfl⟩
  have b0 : Blk W0 w.heap.size 27 #[.int .u8 5, .int .u8 o, .int .u8 t, .int .i32 n, .int .i64 v, .slice (some ⟨b, off, none⟩) 2 c] := by rw [← hW0]; exact Blk.new w _ _
  have K0 : Below w.heap.size w W0 := by rw [← hW0]; exact (Below.refl _ _).alloc (Nat.le_refl _) _
  have S : Hid (FtAt w W0 #[.int .u8 5, .int .u8 o, .int .u8 t, .int .i32 n, .int .i64 v, .slice (some ⟨b, off, none⟩) 2 c] 0 b off y) := Lib.hid ⟨K0, b0, hy.below K0 hb, hb⟩
  obtain ⟨c0, c1, c2, c3, c4, c5⟩ := S.out.row.six
  have e0 := b0.cell 0
  have e1 := b0.cell 1
  have e2 := b0.cell 2
  have e3 := b0.cell 3
  have e4 := b0.cell 4
  have e5 := b0.cell 5
  simp at e0 e1 e2 e3 e4 e5
  clear b0 K0 hy
  unfold BothF at *
  subst hq
  have f13 : ¬ (o : Int) ≤ 13 := by omega
  have f14 : ((o : Int) == 14) = false := by simp; omega
  have f15 : ((o : Int) == 15) = false := by simp; omega
  have f19 : ¬ (o : Int) ≤ 19 := by omega
  have f22 : ((o : Int) == 22) = true := by simp; omega
  clear ho
  all_goals
    go_enter Tryz.func36, Tryz.ntmps36
    go_wp2_with (first
      | (go_at_call 56; (with_reducible refine (G1.out _ S.out.bel).mono ?_); rintro e1 w1 ⟨rfl, hb1⟩
         replace S := Lib.hid (S.out.call hb1)
         obtain ⟨c0, c1, c2, c3, c4, c5⟩ := S.out.row.six
         have x0 := S.out.box
         have e0 := x0.cell 0
         have e1 := x0.cell 1
         have e2 := x0.cell 2
         have e3 := x0.cell 3
         have e4 := x0.cell 4
         have e5 := x0.cell 5
         simp at e0 e1 e2 e3 e4 e5
         clear x0 hb1))
    all_goals (go_ret; exact ⟨by refine ret_bool rfl ?_; rfl, S.out.bel⟩)
set_option maxRecDepth 100000 in
set_option maxHeartbeats 4000000 in
theorem rFits_dyB (hb : b < w.heap.size) (hy : RowE w b off y) (hq : q = 3) (ho : 20 ≤ o ∧ o ≠ 22) (G3 : Hid (BothF vs Av cv nv w #[.int .u8 5, .int .u8 o, .int .u8 t, .int .i32 n, .int .i64 v, .slice (some ⟨b, off, none⟩) 2 c] 3 p3)) :
    Calls Tryz.prog 36 #[.slice Av nv cv, .agg #[.int .u8 5, .int .u8 o, .int .u8 t, .int .i32 n, .int .i64 v, .slice (some ⟨b, off, none⟩) 2 c], .int .u8 q] w (RetV (.bool (p3)) w) := by
  obtain ⟨W0, hW0⟩ : ∃ W, w.alloc (.cells #[.int .u8 5, .int .u8 o, .int .u8 t, .int .i32 n, .int .i64 v, .slice (some ⟨b, off, none⟩) 2 c] 27) = W := ⟨_, rfl⟩
  have b0 : Blk W0 w.heap.size 27 #[.int .u8 5, .int .u8 o, .int .u8 t, .int .i32 n, .int .i64 v, .slice (some ⟨b, off, none⟩) 2 c] := by rw [← hW0]; exact Blk.new w _ _
  have K0 : Below w.heap.size w W0 := by rw [← hW0]; exact (Below.refl _ _).alloc (Nat.le_refl _) _
  have S : Hid (FtAt w W0 #[.int .u8 5, .int .u8 o, .int .u8 t, .int .i32 n, .int .i64 v, .slice (some ⟨b, off, none⟩) 2 c] 0 b off y) := Lib.hid ⟨K0, b0, hy.below K0 hb, hb⟩
  obtain ⟨c0, c1, c2, c3, c4, c5⟩ := S.out.row.six
  have e0 := b0.cell 0
  have e1 := b0.cell 1
  have e2 := b0.cell 2
  have e3 := b0.cell 3
  have e4 := b0.cell 4
  have e5 := b0.cell 5
  simp at e0 e1 e2 e3 e4 e5
  clear b0 K0 hy
  unfold BothF at *
  subst hq
  have f13 : ¬ (o : Int) ≤ 13 := by omega
  have f14 : ((o : Int) == 14) = false := by simp; omega
  have f15 : ((o : Int) == 15) = false := by simp; omega
  have f19 : ¬ (o : Int) ≤ 19 := by omega
  have f22 : ((o : Int) == 22) = false := by simp; omega
  clear ho
  all_goals
    go_enter Tryz.func36, Tryz.ntmps36
    go_wp2_with (first
      | (go_at_call 56; (with_reducible refine (G3.out _ S.out.bel).mono ?_); rintro e1 w1 ⟨rfl, hb1⟩
         replace S := Lib.hid (S.out.call hb1)
         obtain ⟨c0, c1, c2, c3, c4, c5⟩ := S.out.row.six
         have x0 := S.out.box
         have e0 := x0.cell 0
         have e1 := x0.cell 1
         have e2 := x0.cell 2
         have e3 := x0.cell 3
         have e4 := x0.cell 4
         have e5 := x0.cell 5
         simp at e0 e1 e2 e3 e4 e5
         clear x0 hb1))
    all_goals (go_ret; exact ⟨by refine ret_bool rfl ?_; rfl, S.out.bel⟩)
end
end Go.Proofs.YtbefmlioampgcaaGreatDoor

/- The document's words on the kinds that an expression fits, walked: fits whole, Fits. -/
namespace Go.Proofs.YtbefmlioampgcaaGreatDoor
open Go.RowKit
set_option linter.unusedSimpArgs false
set_option linter.unusedVariables false

theorem PartF.mono {vs : List KVar} {Av : Option Addr} {cv nv : Nat} {w w' : World} {y : KE} {q : Int} {p : Bool} (h : PartF vs Av cv nv w y q p) (hb : Below w.heap.size w w') : PartF vs Av cv nv w' y q p :=
  fun w1 h1 => h w1 (hb.trans (h1.mono hb.size))
section
variable {vs : List KVar} {Av : Option Addr} {cv nv B : Nat} {w : World} {o t c b off kd : Nat} {n v q : Int} {y z : KE} {p1 p2 p3 : Bool}
set_option maxRecDepth 100000 in
set_option maxHeartbeats 4000000 in
theorem rBoth (hb : b < w.heap.size) (hy : RowE w b off y) (hz : RowE w b (off + 6) z) (HY : PartF vs Av cv nv w y q p1) (HZ : PartF vs Av cv nv w z q p2) :
    Calls Tryz.prog 56 #[.slice Av nv cv, .agg #[.int .u8 kd, .int .u8 o, .int .u8 t, .int .i32 n, .int .i64 v, .slice (some ⟨b, off, none⟩) 2 c], .int .u8 q] w (RetV (.bool (p1 && p2)) w) := by
  obtain ⟨W0, hW0⟩ : ∃ W, w.alloc (.cells #[.int .u8 kd, .int .u8 o, .int .u8 t, .int .i32 n, .int .i64 v, .slice (some ⟨b, off, none⟩) 2 c] 27) = W := ⟨_, rfl⟩
  have b0 : Blk W0 w.heap.size 27 #[.int .u8 kd, .int .u8 o, .int .u8 t, .int .i32 n, .int .i64 v, .slice (some ⟨b, off, none⟩) 2 c] := by rw [← hW0]; exact Blk.new w _ _
  have K0 : Below w.heap.size w W0 := by rw [← hW0]; exact (Below.refl _ _).alloc (Nat.le_refl _) _
  have S : Hid (FtAt w W0 #[.int .u8 kd, .int .u8 o, .int .u8 t, .int .i32 n, .int .i64 v, .slice (some ⟨b, off, none⟩) 2 c] 0 b off y) := Lib.hid ⟨K0, b0, hy.below K0 hb, hb⟩
  have S2 : Hid (FtAt w W0 #[.int .u8 kd, .int .u8 o, .int .u8 t, .int .i32 n, .int .i64 v, .slice (some ⟨b, off, none⟩) 2 c] 0 b (off + 6) z) := Lib.hid ⟨K0, b0, hz.below K0 hb, hb⟩
  obtain ⟨c0, c1, c2, c3, c4, c5⟩ := S.out.row.six
  obtain ⟨d0, d1, d2, d3, d4, d5⟩ := S2.out.row.six
  have e0 := b0.cell 0
  have e1 := b0.cell 1
  have e2 := b0.cell 2
  have e3 := b0.cell 3
  have e4 := b0.cell 4
  have e5 := b0.cell 5
  simp at e0 e1 e2 e3 e4 e5
  have HYH := Lib.hid HY
  have HZH := Lib.hid HZ
  clear b0 K0 hy hz HY HZ
  unfold PartF at HYH HZH
  cases p1
  all_goals
    go_enter Tryz.func56, Tryz.ntmps56
    go_wp2_with (first
      | (go_at_call 36; (with_reducible refine (HYH.out _ S.out.bel).mono ?_); rintro e1 w1 ⟨rfl, hb1⟩
         replace S := Lib.hid (S.out.call hb1)
         replace S2 := Lib.hid (S2.out.call hb1)
         obtain ⟨d0, d1, d2, d3, d4, d5⟩ := S2.out.row.six
         have x0 := S.out.box
         have e0 := x0.cell 0
         have e1 := x0.cell 1
         have e2 := x0.cell 2
         have e3 := x0.cell 3
         have e4 := x0.cell 4
         have e5 := x0.cell 5
         simp at e0 e1 e2 e3 e4 e5
         clear x0 hb1)
      | (go_at_call 36; (with_reducible refine (HZH.out _ S.out.bel).mono ?_); rintro e1 w1 ⟨rfl, hb1⟩
         replace S := Lib.hid (S.out.call hb1)
         clear hb1))
    all_goals (go_ret; exact ⟨by refine ret_bool rfl ?_; simp, S.out.bel⟩)
set_option maxRecDepth 100000 in
set_option maxHeartbeats 4000000 in
theorem rFits_elem (hq : q = 1 ∨ q = 2 ∨ q = 3) (hv0 : 0 ≤ v) (hB : B ≤ w.heap.size) (hr : Reads w B 2 Av vs.length (varsC vs)) (hb : b < w.heap.size) (hy : RowE w b off y) (H1 : Hid (PartF vs Av cv vs.length w y 1 p1)) :
    Calls Tryz.prog 36 #[.slice Av vs.length cv, .agg #[.int .u8 3, .int .u8 o, .int .u8 t, .int .i32 n, .int .i64 v, .slice (some ⟨b, off, none⟩) 1 c], .int .u8 q] w
      (RetV (.bool (match vs[v.toNat]? with
        | some x => decide (0 < x.dim) && ((x.kind : Int) == q) && p1
        | none => false)) w) := by
  obtain ⟨W0, hW0⟩ : ∃ W, w.alloc (.cells #[.int .u8 3, .int .u8 o, .int .u8 t, .int .i32 n, .int .i64 v, .slice (some ⟨b, off, none⟩) 1 c] 27) = W := ⟨_, rfl⟩
  have b0 : Blk W0 w.heap.size 27 #[.int .u8 3, .int .u8 o, .int .u8 t, .int .i32 n, .int .i64 v, .slice (some ⟨b, off, none⟩) 1 c] := by rw [← hW0]; exact Blk.new w _ _
  have K0 : Below w.heap.size w W0 := by rw [← hW0]; exact (Below.refl _ _).alloc (Nat.le_refl _) _
  have S : Hid (FtAt w W0 #[.int .u8 3, .int .u8 o, .int .u8 t, .int .i32 n, .int .i64 v, .slice (some ⟨b, off, none⟩) 1 c] 0 b off y) := Lib.hid ⟨K0, b0, hy.below K0 hb, hb⟩
  obtain ⟨c0, c1, c2, c3, c4, c5⟩ := S.out.row.six
  have e0 := b0.cell 0
  have e1 := b0.cell 1
  have e2 := b0.cell 2
  have e3 := b0.cell 3
  have e4 := b0.cell 4
  have e5 := b0.cell 5
  simp at e0 e1 e2 e3 e4 e5
  have hr0 := hr.below (K0.mono hB)
  clear b0 K0 hy hr hB
  unfold PartF at H1
  by_cases hv : v < (vs.length : Int)
  · obtain ⟨b', off', x, rfl, hb', hx, hm', d0, d1⟩ := vars_at hr0 rfl (k := v.toNat) (by omega)
    rw [hx]
    simp only
    generalize vs.length = nv at *
    obtain ⟨d, hd⟩ : ∃ d : Bool, ((x.kind : Int) == q) = d := ⟨_, rfl⟩
    rw [hd]
    clear hx hm' hr0
    by_cases hdm : 0 < x.dim
    all_goals
      rcases hq with rfl | rfl | rfl <;> cases d
      all_goals
        have HD := Lib.hid hdm
        go_enter Tryz.func36, Tryz.ntmps36
        go_wp2_with (first
          | (go_at_call 36; (with_reducible refine (H1.out _ S.out.bel).mono ?_); rintro e1 w1 ⟨rfl, hb1⟩
             replace S := Lib.hid (S.out.call hb1)
             clear hb1))
        all_goals (go_ret; exact ⟨by refine ret_bool rfl ?_; first | (simp [hdm]; done) | simp [Int.not_lt.2 hdm], S.out.bel⟩)
  · have hx := List.getElem?_eq_none (l := vs) (i := v.toNat) (by omega)
    rw [hx]
    simp only
    generalize vs.length = nv at *
    clear hr0 hx
    rcases hq with rfl | rfl | rfl
    all_goals
      go_enter Tryz.func36, Tryz.ntmps36
      go_wp2
      all_goals (go_ret; exact ⟨rfl, S.out.bel⟩)
end
end Go.Proofs.YtbefmlioampgcaaGreatDoor

/- The document's words on the kinds that an expression fits: fits whole; Fits, place, input, output. -/
namespace Go.Proofs.YtbefmlioampgcaaGreatDoor
open Go.RowKit
set_option linter.unusedSimpArgs false
set_option linter.unusedVariables false

theorem kind_int (k : Nat) (q : Int) (hq : q = 1 ∨ q = 2 ∨ q = 3) : ((k : Int) == q) = (k == q.toNat) := by
  rw [Bool.eq_iff_iff]; simp; rcases hq with rfl | rfl | rfl <;> omega
set_option maxRecDepth 100000 in
theorem rFits16 (vs : List KVar) (e : KE) : e.all (fun x => fieldsB x = true) → RFitsOk vs e := by
  induction e using KE.ind with
  | h e ih =>
    intro hall q hq Av cv B w hr hl hi hB
    have hf := fieldsB_cases (KE.all_iff.1 hall).1
    have hparts : ∀ x ∈ e.l, RFitsOk vs x := fun x hx => ih x hx ((KE.all_iff.1 hall).2 x hx)
    have hp := hi.parts
    have hone := hi.one.1
    clear ih hall hi
    obtain ⟨kd, op, tk, nm, vv, A, c, l⟩ := e
    simp only at hf hparts hp hone
    simp only [KE.cells]
    rcases hf with ⟨rfl, -⟩ | ⟨rfl, -, h0⟩ | ⟨rfl, hm, h0⟩ | ⟨rfl, hm, h1, h2⟩ | ⟨rfl, hm, h1, h2⟩ | ⟨rfl, hm, h1, h2⟩
    · exact rFits_num l hq hone.2.2.2.1 _
    · exact rFits_var l hq h0 hB hr
    · obtain ⟨y, rfl⟩ := len_one hm
      obtain ⟨b, off, x, rfl, hb, hx, hin, hrow⟩ := kes_row hp (k := 0) (by simp)
      obtain rfl : y = x := by simpa using hx
      rw [Nat.zero_mul, Nat.add_zero] at hrow
      have := rFits_elem (o := op) (t := tk) (n := nm) (c := c) (cv := cv) hq h0 hB hr (Nat.lt_of_lt_of_le hb hB) hrow (Lib.hid (PartF.of (hparts y (by simp)) 1 (by simp) hr hl hin hB))
      have e : fitsZ vs ⟨3, op, tk, nm, vv, some ⟨b, off, none⟩, c, [y]⟩ q = match vs[vv.toNat]? with
        | some x => decide (0 < x.dim) && ((x.kind : Int) == q) && fitsZ vs y 1
        | none => false := by
        unfold fitsZ
        simp only [fitsB, fitsA]
        cases vs[vv.toNat]? with
        | none => rfl
        | some x => simp only [kind_int _ _ hq]; rfl
      rw [e]
      exact this
    · obtain ⟨y, rfl⟩ := len_one hm
      obtain ⟨b, off, x, rfl, hb, hx, hin, hrow⟩ := kes_row hp (k := 0) (by simp)
      obtain rfl : y = x := by simpa using hx
      rw [Nat.zero_mul, Nat.add_zero] at hrow
      have hb' := Nat.lt_of_lt_of_le hb hB
      have P := fun (i : Int) (hi : i = 1 ∨ i = 2 ∨ i = 3) => Lib.hid (PartF.of (Av := Av) (cv := cv) (hparts y (by simp)) i hi hr hl hin hB)
      have := rFits_mon (o := op) (t := tk) (n := nm) (v := vv) (c := c) (cv := cv) hb' hrow hq ⟨h1, h2⟩ (P 1 (by simp)) (P 3 (by simp))
      have e : fitsZ vs ⟨4, op, tk, nm, vv, some ⟨b, off, none⟩, c, [y]⟩ q = if decide (op = 26) = true then q == 3 && fitsZ vs y 3 else q == 1 && fitsZ vs y 1 := by
        unfold fitsZ
        simp only [fitsB, fitsA, decide_eq_true_eq]
        have a1 : (q.toNat == 3) = (q == 3) := by rw [Bool.eq_iff_iff]; simp; rcases hq with rfl | rfl | rfl <;> omega
        have a2 : (q.toNat == 1) = (q == 1) := by rw [Bool.eq_iff_iff]; simp; rcases hq with rfl | rfl | rfl <;> omega
        rw [a1, a2]
        rfl
      rw [e]
      exact this
    · obtain ⟨y, z, rfl⟩ := len_two hm
      obtain ⟨b, off, x, rfl, hb, hx, hin, hrow⟩ := kes_row hp (k := 0) (by simp)
      obtain rfl : y = x := by simpa using hx
      obtain ⟨b2, off2, x2, e2, hb2, hx2, hin2, hrow2⟩ := kes_row hp (k := 1) (by simp)
      obtain rfl : z = x2 := by simpa using hx2
      injection e2 with e2
      injection e2 with e2 e3
      subst e2 e3
      rw [Nat.zero_mul, Nat.add_zero] at hrow
      rw [Nat.one_mul] at hrow2
      have hb' := Nat.lt_of_lt_of_le hb hB
      have G := fun (i : Int) (hi : i = 1 ∨ i = 2 ∨ i = 3) => Lib.hid (show BothF vs Av cv vs.length w #[.int .u8 5, .int .u8 op, .int .u8 tk, .int .i32 nm, .int .i64 vv, .slice (some ⟨b, off, none⟩) 2 c] i (fitsZ vs y i && fitsZ vs z i) from
        fun w1 h => rBoth (Nat.lt_of_lt_of_le hb' h.size) (hrow.below h hb') (hrow2.below h hb') ((PartF.of (hparts y (by simp)) i hi hr hl hin hB).mono h) ((PartF.of (hparts z (by simp)) i hi hr hl hin2 hB).mono h))
      have a1 : (q.toNat == 1) = (q == 1) := by rw [Bool.eq_iff_iff]; simp; rcases hq with rfl | rfl | rfl <;> omega
      have a3 : q.toNat ≠ 3 ↔ q ≠ 3 := by rcases hq with rfl | rfl | rfl <;> simp
      by_cases h13 : op ≤ 13
      · have e : fitsZ vs ⟨5, op, tk, nm, vv, some ⟨b, off, none⟩, c, [y, z]⟩ q = (q == 1 && (fitsZ vs y 1 && fitsZ vs z 1)) := by
          unfold fitsZ
          simp only [fitsB, fitsA, if_pos h13, a1]
          rfl
        rw [e]
        exact rFits_dy13 (y := y) hb' hrow hq h13 (G 1 (by simp))
      by_cases h3 : q = 3
      · subst h3
        have e : fitsZ vs ⟨5, op, tk, nm, vv, some ⟨b, off, none⟩, c, [y, z]⟩ 3 = if op = 14 ∨ op = 15 then (fitsZ vs y 1 && fitsZ vs z 1) || (fitsZ vs y 2 && fitsZ vs z 2) || (fitsZ vs y 3 && fitsZ vs z 3)
            else if op ≤ 19 then (fitsZ vs y 1 && fitsZ vs z 1) || (fitsZ vs y 2 && fitsZ vs z 2) else if op = 22 then fitsZ vs y 1 && fitsZ vs z 1 else fitsZ vs y 3 && fitsZ vs z 3 := by
          unfold fitsZ
          simp only [fitsB, fitsA, if_neg h13]
          rfl
        rw [e]
        by_cases h14 : op = 14 ∨ op = 15
        · rw [if_pos h14]
          exact rFits_dyE (y := y) hb' hrow rfl h14 (G 1 (by simp)) (G 2 (by simp)) (G 3 (by simp))
        rw [if_neg h14]
        by_cases h19 : op ≤ 19
        · rw [if_pos h19]
          exact rFits_dyL (y := y) hb' hrow rfl ⟨by omega, h19⟩ (G 1 (by simp)) (G 2 (by simp))
        rw [if_neg h19]
        by_cases h22 : op = 22
        · rw [if_pos h22]
          exact rFits_dyA (y := y) hb' hrow rfl h22 (G 1 (by simp))
        · rw [if_neg h22]
          exact rFits_dyB (y := y) hb' hrow rfl ⟨by omega, h22⟩ (G 3 (by simp))
      · have e : fitsZ vs ⟨5, op, tk, nm, vv, some ⟨b, off, none⟩, c, [y, z]⟩ q = false := by
          unfold fitsZ
          simp only [fitsB, fitsA, if_neg h13]
          rw [if_pos (a3.2 h3)]
        rw [e]
        exact rFits_dyN (y := y) hb' hrow (by omega) h13
    · obtain ⟨y, rfl⟩ := len_one hm
      obtain ⟨b, off, x, rfl, hb, hx, hin, hrow⟩ := kes_row hp (k := 0) (by simp)
      obtain rfl : y = x := by simpa using hx
      rw [Nat.zero_mul, Nat.add_zero] at hrow
      have hb' := Nat.lt_of_lt_of_le hb hB
      have P := fun (i : Int) (hi : i = 1 ∨ i = 2 ∨ i = 3) => Lib.hid (PartF.of (Av := Av) (cv := cv) (hparts y (by simp)) i hi hr hl hin hB)
      have := rFits_conv (o := op) (t := tk) (n := nm) (v := vv) (c := c) (cv := cv) hb' hrow hq (P 1 (by simp)) (P 2 (by simp)) (P 3 (by simp))
      have e : fitsZ vs ⟨6, op, tk, nm, vv, some ⟨b, off, none⟩, c, [y]⟩ q = (((tk : Int) == q) && (fitsZ vs y 1 || fitsZ vs y 2 || fitsZ vs y 3)) := by
        unfold fitsZ
        simp only [fitsB, fitsA, kind_int _ _ hq]
        rfl
      rw [e]
      exact this
end Go.Proofs.YtbefmlioampgcaaGreatDoor

/- The document's words on places, inputs and outputs, walked: Fits, place, input, output. -/
namespace Go.Proofs.YtbefmlioampgcaaGreatDoor
open Go.RowKit
set_option linter.unusedSimpArgs false
set_option linter.unusedVariables false

def FitsZ (vs : List KVar) (e : KE) (q : Int) : Bool := validE e && fitsZ vs e q
set_option maxRecDepth 100000 in
set_option maxHeartbeats 2000000 in
theorem rFitsV (vs : List KVar) (e : KE) (q : Int) (hq : q = 1 ∨ q = 2 ∨ q = 3) (Av : Option Addr) (cv B : Nat) (w : World) (hr : Reads w B 2 Av vs.length (varsC vs)) (hl : vs.length ≤ 256) (hi : e.In w B) (hB : B ≤ w.heap.size) :
    Calls Tryz.prog 17 #[.slice Av vs.length cv, .agg e.cells, .int .u8 q] w (RetV (.bool (FitsZ vs e q)) w) := by
  obtain ⟨W0, hW0⟩ : ∃ W, w.alloc (.cells e.cells 27) = W := ⟨_, rfl⟩
  have b0 : Blk W0 w.heap.size 27 e.cells := by rw [← hW0]; exact Blk.new w _ _
  have K0 : Below w.heap.size w W0 := by rw [← hW0]; exact (Below.refl _ _).alloc (Nat.le_refl _) _
  have hr0 := hr.below (K0.mono hB)
  have hi0 := hi.below (K0.mono hB)
  have hB0 := Nat.le_trans hB K0.size
  have HK0 := Lib.hid K0
  have HB0 := Lib.hid b0
  have HV := Lib.hid (rValid16 e B W0 hi0 hB0)
  have HR := Lib.hid (show FitsZ vs e q = (validE e && fitsZ vs e q) from rfl)
  cases hv : validE e with
  | false =>
    rw [hv] at HV HR
    simp only [KE.cells] at hW0 HV b0 ⊢
    have e0 := b0.cell 0
    have e1 := b0.cell 1
    have e2 := b0.cell 2
    have e3 := b0.cell 3
    have e4 := b0.cell 4
    have e5 := b0.cell 5
    simp at e0 e1 e2 e3 e4 e5
    clear b0 K0 hr0 hi0 hv hi hr HB0
    generalize vs.length = nv at *
    go_enter Tryz.func17, Tryz.ntmps17
    go_wp2_with (go_at_call 27; (with_reducible refine HV.out.mono ?_); rintro e1 w1 ⟨rfl, hb1⟩)
    go_ret
    exact ⟨by rw [HR.out]; rfl, HK0.out.trans (hb1.mono HK0.out.size)⟩
  | true =>
    have HC := Lib.hid (fun (w1 : World) (hb : Below W0.heap.size W0 w1) => rFits16 vs e (validE_all hv) q hq Av cv B w1 (hr0.below (hb.mono hB0)) hl (hi0.below (hb.mono hB0)) (Nat.le_trans hB0 hb.size))
    rw [hv] at HV HR
    generalize fitsZ vs e q = fb at *
    generalize FitsZ vs e q = R at *
    simp only [KE.cells] at hW0 HV b0 HB0 HC ⊢
    have e0 := b0.cell 0
    have e1 := b0.cell 1
    have e2 := b0.cell 2
    have e3 := b0.cell 3
    have e4 := b0.cell 4
    have e5 := b0.cell 5
    simp at e0 e1 e2 e3 e4 e5
    clear b0 K0 hr0 hi0 hv hi hr
    generalize vs.length = nv at *
    go_enter Tryz.func17, Tryz.ntmps17
    go_wp2_with (first
      | (go_at_call 27; (with_reducible refine HV.out.mono ?_); rintro e1 w1 ⟨rfl, hb1⟩
         have b1 := HB0.out.call hb1
         have f0 := b1.cell 0
         have f1 := b1.cell 1
         have f2 := b1.cell 2
         have f3 := b1.cell 3
         have f4 := b1.cell 4
         have f5 := b1.cell 5
         simp at f0 f1 f2 f3 f4 f5
         have HB1 := Lib.hid hb1
         clear hb1 b1)
      | (go_at_call 36; (with_reducible refine (HC.out _ HB1.out).mono ?_); rintro e2 w2 ⟨rfl, hb2⟩))
    go_ret
    exact ⟨by rw [HR.out]; rfl, HK0.out.trans ((HB1.out.trans (hb2.mono HB1.out.size)).mono HK0.out.size)⟩
end Go.Proofs.YtbefmlioampgcaaGreatDoor
