/- Texts that belong together, joined: what each one holds is told ahead of it. -/
import Derived.Test.YtekamebpjjkifaaHK6
/- Which fields a process uses: shape, walked in the program. -/
namespace Go.Proofs.Ytekamebpjjkifaa
open Go.RowKit
set_option linter.unusedSimpArgs false
set_option linter.unusedVariables false

def inI (n a b : Int) : Bool := decide (a ≤ n ∧ n ≤ b)
set_option maxHeartbeats 2000000 in
theorem kIn (n a b : Int) (w : World) : Calls Try.prog 80 #[.int .i64 n, .agg #[.int .i64 a, .int .i64 b]] w (RetV (.bool (inI n a b)) w) := by
  have K0 : Hid (Below w.heap.size w (w.alloc (.cells #[.int .i64 a, .int .i64 b] 120))) := Lib.hid ((Below.refl _ _).alloc (Nat.le_refl _) _)
  by_cases h1 : a ≤ n
  · have HR := Lib.hid (show inI n a b = decide (n ≤ b) by simp [inI, h1])
    go_enter Try.func80, Try.ntmps80
    go_wp2
    go_ret
    exact ⟨by refine ret_bool rfl ?_; rw [HR.out], K0.out⟩
  · have HR := Lib.hid (show inI n a b = false by simp [inI, h1])
    go_enter Try.func80, Try.ntmps80
    go_wp2
    go_ret
    exact ⟨by refine ret_bool rfl ?_; rw [HR.out], K0.out⟩
/-- The boxes of shape, in a world. -/
structure ShAt (w W : World) (cs : Array Value) (a0 a1 b0 b1 c0 c1 d0 d1 : Int) : Prop where
  bel : Below w.heap.size w W
  p : Blk W w.heap.size 31 cs
  a : Blk W (w.heap.size + 1) 120 #[.int .i64 a0, .int .i64 a1]
  b : Blk W (w.heap.size + 1 + 1) 120 #[.int .i64 b0, .int .i64 b1]
  c : Blk W (w.heap.size + 1 + 1 + 1) 120 #[.int .i64 c0, .int .i64 c1]
  d : Blk W (w.heap.size + 1 + 1 + 1 + 1) 120 #[.int .i64 d0, .int .i64 d1]
theorem ShAt.call {w W W1 : World} {cs : Array Value} {a0 a1 b0 b1 c0 c1 d0 d1 : Int} (h : ShAt w W cs a0 a1 b0 b1 c0 c1 d0 d1) (hb : Below W.heap.size W W1) : ShAt w W1 cs a0 a1 b0 b1 c0 c1 d0 d1 :=
  ⟨h.bel.trans (hb.mono h.bel.size), h.p.call hb, h.a.call hb, h.b.call hb, h.c.call hb, h.d.call hb⟩
theorem ShAt.new (w : World) (cs : Array Value) (a0 a1 b0 b1 c0 c1 d0 d1 : Int) :
    ShAt w (((((w.alloc (.cells cs 31)).alloc (.cells #[.int .i64 a0, .int .i64 a1] 120)).alloc (.cells #[.int .i64 b0, .int .i64 b1] 120)).alloc (.cells #[.int .i64 c0, .int .i64 c1] 120)).alloc (.cells #[.int .i64 d0, .int .i64 d1] 120)) cs a0 a1 b0 b1 c0 c1 d0 d1 := by
  have k1 : Below w.heap.size w (w.alloc (.cells cs 31)) := (Below.refl _ _).alloc (Nat.le_refl _) _
  generalize hw1 : w.alloc (.cells cs 31) = w1 at *
  have s1 : w1.heap.size = w.heap.size + 1 := by rw [← hw1]; simp
  have p1 : Blk w1 w.heap.size 31 cs := by rw [← hw1]; exact Blk.new _ _ _
  have k2 : Below w1.heap.size w1 (w1.alloc (.cells #[.int .i64 a0, .int .i64 a1] 120)) := (Below.refl _ _).alloc (Nat.le_refl _) _
  have q1 : Blk (w1.alloc (.cells #[.int .i64 a0, .int .i64 a1] 120)) w1.heap.size 120 #[.int .i64 a0, .int .i64 a1] := Blk.new _ _ _
  generalize hw2 : w1.alloc (.cells #[.int .i64 a0, .int .i64 a1] 120) = w2 at *
  have s2 : w2.heap.size = w1.heap.size + 1 := by rw [← hw2]; simp
  have k3 : Below w2.heap.size w2 (w2.alloc (.cells #[.int .i64 b0, .int .i64 b1] 120)) := (Below.refl _ _).alloc (Nat.le_refl _) _
  have q2 : Blk (w2.alloc (.cells #[.int .i64 b0, .int .i64 b1] 120)) w2.heap.size 120 #[.int .i64 b0, .int .i64 b1] := Blk.new _ _ _
  generalize hw3 : w2.alloc (.cells #[.int .i64 b0, .int .i64 b1] 120) = w3 at *
  have s3 : w3.heap.size = w2.heap.size + 1 := by rw [← hw3]; simp
  have k4 : Below w3.heap.size w3 (w3.alloc (.cells #[.int .i64 c0, .int .i64 c1] 120)) := (Below.refl _ _).alloc (Nat.le_refl _) _
  have q3 : Blk (w3.alloc (.cells #[.int .i64 c0, .int .i64 c1] 120)) w3.heap.size 120 #[.int .i64 c0, .int .i64 c1] := Blk.new _ _ _
  generalize hw4 : w3.alloc (.cells #[.int .i64 c0, .int .i64 c1] 120) = w4 at *
  have s4 : w4.heap.size = w3.heap.size + 1 := by rw [← hw4]; simp
  have k5 : Below w4.heap.size w4 (w4.alloc (.cells #[.int .i64 d0, .int .i64 d1] 120)) := (Below.refl _ _).alloc (Nat.le_refl _) _
  have q4 : Blk (w4.alloc (.cells #[.int .i64 d0, .int .i64 d1] 120)) w4.heap.size 120 #[.int .i64 d0, .int .i64 d1] := Blk.new _ _ _
  refine ⟨k1.trans ((k2.trans ((k3.trans ((k4.trans (k5.mono k4.size)).mono k3.size)).mono k2.size)).mono k1.size),
    (((p1.call k2).call k3).call k4).call k5, ?_, ?_, ?_, ?_⟩
  · rw [← s1]; exact ((q1.call k3).call k4).call k5
  · rw [← s1, ← s2]; exact (q2.call k4).call k5
  · rw [← s1, ← s2, ← s3]; exact q3.call k5
  · rw [← s1, ← s2, ← s3, ← s4]; exact q4
/-- What shape answers. -/
def shapeI (c v : Int) (item : Nat) (m1 m2 m3 m4 : Nat) (ch vv : Bool) (a0 a1 b0 b1 c0 c1 d0 d1 : Int) : Bool :=
  (ch || decide (c = 0 ∧ item = 0)) && (vv || decide (v = 0)) && inI m1 a0 a1 && inI m2 b0 b1 && inI m3 c0 c1 && inI m4 d0 d1
set_option maxRecDepth 100000 in
set_option maxHeartbeats 4000000 in
theorem kShape_ff (kd : Nat) (c v : Int) (item : Nat) (A1 A2 A3 A4 : Option Addr) (m1 m2 m3 m4 k1 k2 k3 k4 : Nat) (a0 a1 b0 b1 c0 c1 d0 d1 : Int) (w : World) :
    Calls Try.prog 70 #[.agg #[.int .u8 kd, .int .i64 c, .int .i64 v, .int .u8 item, .slice A1 m1 k1, .slice A2 m2 k2, .slice A3 m3 k3, .slice A4 m4 k4], .bool false, .bool false, .agg #[.int .i64 a0, .int .i64 a1], .agg #[.int .i64 b0, .int .i64 b1], .agg #[.int .i64 c0, .int .i64 c1], .agg #[.int .i64 d0, .int .i64 d1]] w
      (RetV (.bool (shapeI c v item m1 m2 m3 m4 false false a0 a1 b0 b1 c0 c1 d0 d1)) w) := by
  have HR := Lib.hid (show shapeI c v item m1 m2 m3 m4 false false a0 a1 b0 b1 c0 c1 d0 d1 = (decide (c = 0 ∧ item = 0) && decide (v = 0) && inI m1 a0 a1 && inI m2 b0 b1 && inI m3 c0 c1 && inI m4 d0 d1) by simp [shapeI])
  generalize shapeI c v item m1 m2 m3 m4 false false a0 a1 b0 b1 c0 c1 d0 d1 = R at *
  have HI := Lib.hid (fun n a b w1 => kIn n a b w1)
  have hS := ShAt.new w #[.int .u8 kd, .int .i64 c, .int .i64 v, .int .u8 item, .slice A1 m1 k1, .slice A2 m2 k2, .slice A3 m3 k3, .slice A4 m4 k4] a0 a1 b0 b1 c0 c1 d0 d1
  generalize hW : (((((w.alloc (.cells #[.int .u8 kd, .int .i64 c, .int .i64 v, .int .u8 item, .slice A1 m1 k1, .slice A2 m2 k2, .slice A3 m3 k3, .slice A4 m4 k4] 31)).alloc (.cells #[.int .i64 a0, .int .i64 a1] 120)).alloc (.cells #[.int .i64 b0, .int .i64 b1] 120)).alloc (.cells #[.int .i64 c0, .int .i64 c1] 120)).alloc (.cells #[.int .i64 d0, .int .i64 d1] 120)) = W at hS
  have x0 := hS.p
  have x1 := hS.a
  have x2 := hS.b
  have x3 := hS.c
  have x4 := hS.d
  have e0 := x0.cell 0
  have e1 := x0.cell 1
  have e2 := x0.cell 2
  have e3 := x0.cell 3
  have e4 := x0.cell 4
  have e5 := x0.cell 5
  have e6 := x0.cell 6
  have e7 := x0.cell 7
  simp at e0 e1 e2 e3 e4 e5 e6 e7
  have f0 := x1.cell 0
  have f1 := x1.cell 1
  simp at f0 f1
  have g0 := x2.cell 0
  have g1 := x2.cell 1
  simp at g0 g1
  have h0 := x3.cell 0
  have h1 := x3.cell 1
  simp at h0 h1
  have i0 := x4.cell 0
  have i1 := x4.cell 1
  simp at i0 i1
  have S := Lib.hid hS
  clear hS x0 x1 x2 x3 x4
  go_enter Try.func70, Try.ntmps70
  go_wp2_with (first
    | (go_at_call 80; (with_reducible refine (HI.out _ _ _ _).mono ?_); rintro e1 w1 ⟨rfl, hb1⟩
       replace S := Lib.hid (S.out.call hb1)
       have x0 := S.out.p
       have x2 := S.out.b
       have x3 := S.out.c
       have x4 := S.out.d
       have e0 := x0.cell 0
       have e1 := x0.cell 1
       have e2 := x0.cell 2
       have e3 := x0.cell 3
       have e4 := x0.cell 4
       have e5 := x0.cell 5
       have e6 := x0.cell 6
       have e7 := x0.cell 7
       simp at e0 e1 e2 e3 e4 e5 e6 e7
       have g0 := x2.cell 0
       have g1 := x2.cell 1
       simp at g0 g1
       have h0 := x3.cell 0
       have h1 := x3.cell 1
       simp at h0 h1
       have i0 := x4.cell 0
       have i1 := x4.cell 1
       simp at i0 i1
       clear x0 x2 x3 x4 hb1))
  all_goals (go_ret; exact ⟨by refine ret_bool rfl ?_; rw [HR.out]; simp_all, S.out.bel⟩)
set_option maxRecDepth 100000 in
set_option maxHeartbeats 4000000 in
theorem kShape_ft (kd : Nat) (c v : Int) (item : Nat) (A1 A2 A3 A4 : Option Addr) (m1 m2 m3 m4 k1 k2 k3 k4 : Nat) (a0 a1 b0 b1 c0 c1 d0 d1 : Int) (w : World) :
    Calls Try.prog 70 #[.agg #[.int .u8 kd, .int .i64 c, .int .i64 v, .int .u8 item, .slice A1 m1 k1, .slice A2 m2 k2, .slice A3 m3 k3, .slice A4 m4 k4], .bool false, .bool true, .agg #[.int .i64 a0, .int .i64 a1], .agg #[.int .i64 b0, .int .i64 b1], .agg #[.int .i64 c0, .int .i64 c1], .agg #[.int .i64 d0, .int .i64 d1]] w
      (RetV (.bool (shapeI c v item m1 m2 m3 m4 false true a0 a1 b0 b1 c0 c1 d0 d1)) w) := by
  have HR := Lib.hid (show shapeI c v item m1 m2 m3 m4 false true a0 a1 b0 b1 c0 c1 d0 d1 = (decide (c = 0 ∧ item = 0) && inI m1 a0 a1 && inI m2 b0 b1 && inI m3 c0 c1 && inI m4 d0 d1) by simp [shapeI])
  generalize shapeI c v item m1 m2 m3 m4 false true a0 a1 b0 b1 c0 c1 d0 d1 = R at *
  have HI := Lib.hid (fun n a b w1 => kIn n a b w1)
  have hS := ShAt.new w #[.int .u8 kd, .int .i64 c, .int .i64 v, .int .u8 item, .slice A1 m1 k1, .slice A2 m2 k2, .slice A3 m3 k3, .slice A4 m4 k4] a0 a1 b0 b1 c0 c1 d0 d1
  generalize hW : (((((w.alloc (.cells #[.int .u8 kd, .int .i64 c, .int .i64 v, .int .u8 item, .slice A1 m1 k1, .slice A2 m2 k2, .slice A3 m3 k3, .slice A4 m4 k4] 31)).alloc (.cells #[.int .i64 a0, .int .i64 a1] 120)).alloc (.cells #[.int .i64 b0, .int .i64 b1] 120)).alloc (.cells #[.int .i64 c0, .int .i64 c1] 120)).alloc (.cells #[.int .i64 d0, .int .i64 d1] 120)) = W at hS
  have x0 := hS.p
  have x1 := hS.a
  have x2 := hS.b
  have x3 := hS.c
  have x4 := hS.d
  have e0 := x0.cell 0
  have e1 := x0.cell 1
  have e2 := x0.cell 2
  have e3 := x0.cell 3
  have e4 := x0.cell 4
  have e5 := x0.cell 5
  have e6 := x0.cell 6
  have e7 := x0.cell 7
  simp at e0 e1 e2 e3 e4 e5 e6 e7
  have f0 := x1.cell 0
  have f1 := x1.cell 1
  simp at f0 f1
  have g0 := x2.cell 0
  have g1 := x2.cell 1
  simp at g0 g1
  have h0 := x3.cell 0
  have h1 := x3.cell 1
  simp at h0 h1
  have i0 := x4.cell 0
  have i1 := x4.cell 1
  simp at i0 i1
  have S := Lib.hid hS
  clear hS x0 x1 x2 x3 x4
  go_enter Try.func70, Try.ntmps70
  go_wp2_with (first
    | (go_at_call 80; (with_reducible refine (HI.out _ _ _ _).mono ?_); rintro e1 w1 ⟨rfl, hb1⟩
       replace S := Lib.hid (S.out.call hb1)
       have x0 := S.out.p
       have x2 := S.out.b
       have x3 := S.out.c
       have x4 := S.out.d
       have e0 := x0.cell 0
       have e1 := x0.cell 1
       have e2 := x0.cell 2
       have e3 := x0.cell 3
       have e4 := x0.cell 4
       have e5 := x0.cell 5
       have e6 := x0.cell 6
       have e7 := x0.cell 7
       simp at e0 e1 e2 e3 e4 e5 e6 e7
       have g0 := x2.cell 0
       have g1 := x2.cell 1
       simp at g0 g1
       have h0 := x3.cell 0
       have h1 := x3.cell 1
       simp at h0 h1
       have i0 := x4.cell 0
       have i1 := x4.cell 1
       simp at i0 i1
       clear x0 x2 x3 x4 hb1))
  all_goals (go_ret; exact ⟨by refine ret_bool rfl ?_; rw [HR.out]; simp_all, S.out.bel⟩)
set_option maxRecDepth 100000 in
set_option maxHeartbeats 4000000 in
theorem kShape_tf (kd : Nat) (c v : Int) (item : Nat) (A1 A2 A3 A4 : Option Addr) (m1 m2 m3 m4 k1 k2 k3 k4 : Nat) (a0 a1 b0 b1 c0 c1 d0 d1 : Int) (w : World) :
    Calls Try.prog 70 #[.agg #[.int .u8 kd, .int .i64 c, .int .i64 v, .int .u8 item, .slice A1 m1 k1, .slice A2 m2 k2, .slice A3 m3 k3, .slice A4 m4 k4], .bool true, .bool false, .agg #[.int .i64 a0, .int .i64 a1], .agg #[.int .i64 b0, .int .i64 b1], .agg #[.int .i64 c0, .int .i64 c1], .agg #[.int .i64 d0, .int .i64 d1]] w
      (RetV (.bool (shapeI c v item m1 m2 m3 m4 true false a0 a1 b0 b1 c0 c1 d0 d1)) w) := by
  have HR := Lib.hid (show shapeI c v item m1 m2 m3 m4 true false a0 a1 b0 b1 c0 c1 d0 d1 = (decide (v = 0) && inI m1 a0 a1 && inI m2 b0 b1 && inI m3 c0 c1 && inI m4 d0 d1) by simp [shapeI])
  generalize shapeI c v item m1 m2 m3 m4 true false a0 a1 b0 b1 c0 c1 d0 d1 = R at *
  have HI := Lib.hid (fun n a b w1 => kIn n a b w1)
  have hS := ShAt.new w #[.int .u8 kd, .int .i64 c, .int .i64 v, .int .u8 item, .slice A1 m1 k1, .slice A2 m2 k2, .slice A3 m3 k3, .slice A4 m4 k4] a0 a1 b0 b1 c0 c1 d0 d1
  generalize hW : (((((w.alloc (.cells #[.int .u8 kd, .int .i64 c, .int .i64 v, .int .u8 item, .slice A1 m1 k1, .slice A2 m2 k2, .slice A3 m3 k3, .slice A4 m4 k4] 31)).alloc (.cells #[.int .i64 a0, .int .i64 a1] 120)).alloc (.cells #[.int .i64 b0, .int .i64 b1] 120)).alloc (.cells #[.int .i64 c0, .int .i64 c1] 120)).alloc (.cells #[.int .i64 d0, .int .i64 d1] 120)) = W at hS
  have x0 := hS.p
  have x1 := hS.a
  have x2 := hS.b
  have x3 := hS.c
  have x4 := hS.d
  have e0 := x0.cell 0
  have e1 := x0.cell 1
  have e2 := x0.cell 2
  have e3 := x0.cell 3
  have e4 := x0.cell 4
  have e5 := x0.cell 5
  have e6 := x0.cell 6
  have e7 := x0.cell 7
  simp at e0 e1 e2 e3 e4 e5 e6 e7
  have f0 := x1.cell 0
  have f1 := x1.cell 1
  simp at f0 f1
  have g0 := x2.cell 0
  have g1 := x2.cell 1
  simp at g0 g1
  have h0 := x3.cell 0
  have h1 := x3.cell 1
  simp at h0 h1
  have i0 := x4.cell 0
  have i1 := x4.cell 1
  simp at i0 i1
  have S := Lib.hid hS
  clear hS x0 x1 x2 x3 x4
  go_enter Try.func70, Try.ntmps70
  go_wp2_with (first
    | (go_at_call 80; (with_reducible refine (HI.out _ _ _ _).mono ?_); rintro e1 w1 ⟨rfl, hb1⟩
       replace S := Lib.hid (S.out.call hb1)
       have x0 := S.out.p
       have x2 := S.out.b
       have x3 := S.out.c
       have x4 := S.out.d
       have e0 := x0.cell 0
       have e1 := x0.cell 1
       have e2 := x0.cell 2
       have e3 := x0.cell 3
       have e4 := x0.cell 4
       have e5 := x0.cell 5
       have e6 := x0.cell 6
       have e7 := x0.cell 7
       simp at e0 e1 e2 e3 e4 e5 e6 e7
       have g0 := x2.cell 0
       have g1 := x2.cell 1
       simp at g0 g1
       have h0 := x3.cell 0
       have h1 := x3.cell 1
       simp at h0 h1
       have i0 := x4.cell 0
       have i1 := x4.cell 1
       simp at i0 i1
       clear x0 x2 x3 x4 hb1))
  all_goals (go_ret; exact ⟨by refine ret_bool rfl ?_; rw [HR.out]; simp_all, S.out.bel⟩)
end Go.Proofs.Ytekamebpjjkifaa
