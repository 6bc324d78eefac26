/- Texts that belong together, joined: what each one holds is told ahead of it. -/
import Derived.Test.YtekamebpjjkifaaHK23
import Derived.Test.YtekamebpjjkifaaHK22
import Derived.Test.YtekamebpjjkifaaHK4
/- Which fields a process uses, in the document: looks, walked. -/
namespace Go.Proofs.Ytekamebpjjkifaa
open Go.RowKit
set_option linter.unusedSimpArgs false
set_option linter.unusedVariables false

/-- The boxes of looks, in a world. -/
structure LkAt (w W : World) (g : Nat) (ps fs : Array Value) : Prop where
  bel : Below w.heap.size w W
  pb : Blk W w.heap.size 31 ps
  fb : Blk W g 122 fs
theorem LkAt.call {w W W1 : World} {g : Nat} {ps fs : Array Value} (h : LkAt w W g ps fs) (hb : Below W.heap.size W W1) : LkAt w W1 g ps fs := ⟨h.bel.trans (hb.mono h.bel.size), h.pb.call hb, h.fb.call hb⟩
set_option maxRecDepth 100000 in
set_option maxHeartbeats 4000000 in
theorem rLooks_ff (kd : Nat) (c v : Int) (item : Nat) (A1 A2 A3 A4 : Option Addr) (m1 m2 m3 m4 k1 k2 k3 k4 : Nat) (a0 a1 b0 b1 c0 c1 d0 d1 : Int) (w : World)
    (HF : Hid (∀ w1 : World, Calls Try.prog 46 #[.int .u8 kd] w1 (RetV (.tuple #[.agg #[.bool false, .bool false, .bool false, .int .i64 a0, .int .i64 a1, .int .i64 b0, .int .i64 b1, .int .i64 c0, .int .i64 c1, .int .i64 d0, .int .i64 d1], .bool true]) w1))) :
    Calls Try.prog 40 #[.agg #[.int .u8 kd, .int .i64 c, .int .i64 v, .int .u8 item, .slice A1 m1 k1, .slice A2 m2 k2, .slice A3 m3 k3, .slice A4 m4 k4]] w (RetV (.bool (shapeI c v item m1 m2 m3 m4 false false a0 a1 b0 b1 c0 c1 d0 d1)) w) := by
  have HR := Lib.hid (show shapeI c v item m1 m2 m3 m4 false false a0 a1 b0 b1 c0 c1 d0 d1 = (decide (c = 0 ∧ item = 0) && decide (v = 0) && inI m1 a0 a1 && inI m2 b0 b1 && inI m3 c0 c1 && inI m4 d0 d1) by simp [shapeI])
  generalize shapeI c v item m1 m2 m3 m4 false false a0 a1 b0 b1 c0 c1 d0 d1 = R at *
  have HI := Lib.hid (fun n a b w1 => rWithin n a b w1)
  obtain ⟨W0, hW0⟩ : ∃ W, w.alloc (.cells #[.int .u8 kd, .int .i64 c, .int .i64 v, .int .u8 item, .slice A1 m1 k1, .slice A2 m2 k2, .slice A3 m3 k3, .slice A4 m4 k4] 31) = W := ⟨_, rfl⟩
  have x0 : Blk W0 w.heap.size 31 #[.int .u8 kd, .int .i64 c, .int .i64 v, .int .u8 item, .slice A1 m1 k1, .slice A2 m2 k2, .slice A3 m3 k3, .slice A4 m4 k4] := by rw [← hW0]; exact Blk.new w _ _
  have HX0 := Lib.hid x0
  have HK0 := Lib.hid (show Below w.heap.size w W0 by rw [← hW0]; exact (Below.refl _ _).alloc (Nat.le_refl _) _)
  have e0 := x0.cell 0
  have e1 := x0.cell 1
  have e2 := x0.cell 2
  have e3 := x0.cell 3
  have e4 := x0.cell 4
  have e5 := x0.cell 5
  have e6 := x0.cell 6
  have e7 := x0.cell 7
  simp at e0 e1 e2 e3 e4 e5 e6 e7
  clear x0
  go_enter Try.func40, Try.ntmps40
  go_upto_region 2 with (first
    | (go_at_call 46; (with_reducible refine (HF.out _).mono ?_); rintro e1 w1 ⟨rfl, hb1⟩
       have HS : Hid (LkAt w (w1.alloc (.cells #[.bool false, .bool false, .bool false, .int .i64 a0, .int .i64 a1, .int .i64 b0, .int .i64 b1, .int .i64 c0, .int .i64 c1, .int .i64 d0, .int .i64 d1] 122)) w1.heap.size #[.int .u8 kd, .int .i64 c, .int .i64 v, .int .u8 item, .slice A1 m1 k1, .slice A2 m2 k2, .slice A3 m3 k3, .slice A4 m4 k4] #[.bool false, .bool false, .bool false, .int .i64 a0, .int .i64 a1, .int .i64 b0, .int .i64 b1, .int .i64 c0, .int .i64 c1, .int .i64 d0, .int .i64 d1]) := Lib.hid ⟨(HK0.out.trans (hb1.mono HK0.out.size)).alloc (Nat.le_trans HK0.out.size hb1.size) _, (HX0.out.call hb1).alloc _, Blk.new w1 _ _⟩
       clear hb1))
  generalize hW1 : w1.alloc (.cells #[.bool false, .bool false, .bool false, .int .i64 a0, .int .i64 a1, .int .i64 b0, .int .i64 b1, .int .i64 c0, .int .i64 c1, .int .i64 d0, .int .i64 d1] 122) = W1 at *
  generalize w1.heap.size = g at *
  have S := HS
  clear HS
  have x1 := S.out.pb
  have x2 := S.out.fb
  have f0 := x1.cell 0
  have f1 := x1.cell 1
  have f2 := x1.cell 2
  have f3 := x1.cell 3
  have f4 := x1.cell 4
  have f5 := x1.cell 5
  have f6 := x1.cell 6
  have f7 := x1.cell 7
  simp at f0 f1 f2 f3 f4 f5 f6 f7
  have q0 := x2.cell 0
  have q1 := x2.cell 1
  have q2 := x2.cell 2
  have q3 := x2.cell 3
  have q4 := x2.cell 4
  have q5 := x2.cell 5
  have q6 := x2.cell 6
  have q7 := x2.cell 7
  have q8 := x2.cell 8
  have q9 := x2.cell 9
  have q10 := x2.cell 10
  simp at q0 q1 q2 q3 q4 q5 q6 q7 q8 q9 q10
  clear x1 x2 hW1
  go_wp2_with (first
    | (go_at_call 47; (with_reducible refine (HI.out _ _ _ _).mono ?_); rintro e1 w2 ⟨rfl, hb1⟩
       replace S := Lib.hid (S.out.call hb1)
       have x1 := S.out.pb
       have x2 := S.out.fb
       have f0 := x1.cell 0
       have f1 := x1.cell 1
       have f2 := x1.cell 2
       have f3 := x1.cell 3
       have f4 := x1.cell 4
       have f5 := x1.cell 5
       have f6 := x1.cell 6
       have f7 := x1.cell 7
       simp at f0 f1 f2 f3 f4 f5 f6 f7
       have q0 := x2.cell 0
       have q1 := x2.cell 1
       have q2 := x2.cell 2
       have q3 := x2.cell 3
       have q4 := x2.cell 4
       have q5 := x2.cell 5
       have q6 := x2.cell 6
       have q7 := x2.cell 7
       have q8 := x2.cell 8
       have q9 := x2.cell 9
       have q10 := x2.cell 10
       simp at q0 q1 q2 q3 q4 q5 q6 q7 q8 q9 q10
       clear x1 x2 hb1))
  all_goals (go_ret; exact ⟨by refine ret_bool rfl ?_; rw [HR.out]; simp_all, S.out.bel⟩)
set_option maxRecDepth 100000 in
set_option maxHeartbeats 4000000 in
theorem rLooks_ft (kd : Nat) (c v : Int) (item : Nat) (A1 A2 A3 A4 : Option Addr) (m1 m2 m3 m4 k1 k2 k3 k4 : Nat) (a0 a1 b0 b1 c0 c1 d0 d1 : Int) (w : World)
    (HF : Hid (∀ w1 : World, Calls Try.prog 46 #[.int .u8 kd] w1 (RetV (.tuple #[.agg #[.bool false, .bool true, .bool false, .int .i64 a0, .int .i64 a1, .int .i64 b0, .int .i64 b1, .int .i64 c0, .int .i64 c1, .int .i64 d0, .int .i64 d1], .bool true]) w1))) :
    Calls Try.prog 40 #[.agg #[.int .u8 kd, .int .i64 c, .int .i64 v, .int .u8 item, .slice A1 m1 k1, .slice A2 m2 k2, .slice A3 m3 k3, .slice A4 m4 k4]] w (RetV (.bool (shapeI c v item m1 m2 m3 m4 false true a0 a1 b0 b1 c0 c1 d0 d1)) w) := by
  have HR := Lib.hid (show shapeI c v item m1 m2 m3 m4 false true a0 a1 b0 b1 c0 c1 d0 d1 = (decide (c = 0 ∧ item = 0) && inI m1 a0 a1 && inI m2 b0 b1 && inI m3 c0 c1 && inI m4 d0 d1) by simp [shapeI])
  generalize shapeI c v item m1 m2 m3 m4 false true a0 a1 b0 b1 c0 c1 d0 d1 = R at *
  have HI := Lib.hid (fun n a b w1 => rWithin n a b w1)
  obtain ⟨W0, hW0⟩ : ∃ W, w.alloc (.cells #[.int .u8 kd, .int .i64 c, .int .i64 v, .int .u8 item, .slice A1 m1 k1, .slice A2 m2 k2, .slice A3 m3 k3, .slice A4 m4 k4] 31) = W := ⟨_, rfl⟩
  have x0 : Blk W0 w.heap.size 31 #[.int .u8 kd, .int .i64 c, .int .i64 v, .int .u8 item, .slice A1 m1 k1, .slice A2 m2 k2, .slice A3 m3 k3, .slice A4 m4 k4] := by rw [← hW0]; exact Blk.new w _ _
  have HX0 := Lib.hid x0
  have HK0 := Lib.hid (show Below w.heap.size w W0 by rw [← hW0]; exact (Below.refl _ _).alloc (Nat.le_refl _) _)
  have e0 := x0.cell 0
  have e1 := x0.cell 1
  have e2 := x0.cell 2
  have e3 := x0.cell 3
  have e4 := x0.cell 4
  have e5 := x0.cell 5
  have e6 := x0.cell 6
  have e7 := x0.cell 7
  simp at e0 e1 e2 e3 e4 e5 e6 e7
  clear x0
  go_enter Try.func40, Try.ntmps40
  go_upto_region 2 with (first
    | (go_at_call 46; (with_reducible refine (HF.out _).mono ?_); rintro e1 w1 ⟨rfl, hb1⟩
       have HS : Hid (LkAt w (w1.alloc (.cells #[.bool false, .bool true, .bool false, .int .i64 a0, .int .i64 a1, .int .i64 b0, .int .i64 b1, .int .i64 c0, .int .i64 c1, .int .i64 d0, .int .i64 d1] 122)) w1.heap.size #[.int .u8 kd, .int .i64 c, .int .i64 v, .int .u8 item, .slice A1 m1 k1, .slice A2 m2 k2, .slice A3 m3 k3, .slice A4 m4 k4] #[.bool false, .bool true, .bool false, .int .i64 a0, .int .i64 a1, .int .i64 b0, .int .i64 b1, .int .i64 c0, .int .i64 c1, .int .i64 d0, .int .i64 d1]) := Lib.hid ⟨(HK0.out.trans (hb1.mono HK0.out.size)).alloc (Nat.le_trans HK0.out.size hb1.size) _, (HX0.out.call hb1).alloc _, Blk.new w1 _ _⟩
       clear hb1))
  generalize hW1 : w1.alloc (.cells #[.bool false, .bool true, .bool false, .int .i64 a0, .int .i64 a1, .int .i64 b0, .int .i64 b1, .int .i64 c0, .int .i64 c1, .int .i64 d0, .int .i64 d1] 122) = W1 at *
  generalize w1.heap.size = g at *
  have S := HS
  clear HS
  have x1 := S.out.pb
  have x2 := S.out.fb
  have f0 := x1.cell 0
  have f1 := x1.cell 1
  have f2 := x1.cell 2
  have f3 := x1.cell 3
  have f4 := x1.cell 4
  have f5 := x1.cell 5
  have f6 := x1.cell 6
  have f7 := x1.cell 7
  simp at f0 f1 f2 f3 f4 f5 f6 f7
  have q0 := x2.cell 0
  have q1 := x2.cell 1
  have q2 := x2.cell 2
  have q3 := x2.cell 3
  have q4 := x2.cell 4
  have q5 := x2.cell 5
  have q6 := x2.cell 6
  have q7 := x2.cell 7
  have q8 := x2.cell 8
  have q9 := x2.cell 9
  have q10 := x2.cell 10
  simp at q0 q1 q2 q3 q4 q5 q6 q7 q8 q9 q10
  clear x1 x2 hW1
  go_wp2_with (first
    | (go_at_call 47; (with_reducible refine (HI.out _ _ _ _).mono ?_); rintro e1 w2 ⟨rfl, hb1⟩
       replace S := Lib.hid (S.out.call hb1)
       have x1 := S.out.pb
       have x2 := S.out.fb
       have f0 := x1.cell 0
       have f1 := x1.cell 1
       have f2 := x1.cell 2
       have f3 := x1.cell 3
       have f4 := x1.cell 4
       have f5 := x1.cell 5
       have f6 := x1.cell 6
       have f7 := x1.cell 7
       simp at f0 f1 f2 f3 f4 f5 f6 f7
       have q0 := x2.cell 0
       have q1 := x2.cell 1
       have q2 := x2.cell 2
       have q3 := x2.cell 3
       have q4 := x2.cell 4
       have q5 := x2.cell 5
       have q6 := x2.cell 6
       have q7 := x2.cell 7
       have q8 := x2.cell 8
       have q9 := x2.cell 9
       have q10 := x2.cell 10
       simp at q0 q1 q2 q3 q4 q5 q6 q7 q8 q9 q10
       clear x1 x2 hb1))
  all_goals (go_ret; exact ⟨by refine ret_bool rfl ?_; rw [HR.out]; simp_all, S.out.bel⟩)
set_option maxRecDepth 100000 in
set_option maxHeartbeats 4000000 in
theorem rLooks_tf (kd : Nat) (c v : Int) (item : Nat) (A1 A2 A3 A4 : Option Addr) (m1 m2 m3 m4 k1 k2 k3 k4 : Nat) (a0 a1 b0 b1 c0 c1 d0 d1 : Int) (w : World)
    (HF : Hid (∀ w1 : World, Calls Try.prog 46 #[.int .u8 kd] w1 (RetV (.tuple #[.agg #[.bool true, .bool false, .bool true, .int .i64 a0, .int .i64 a1, .int .i64 b0, .int .i64 b1, .int .i64 c0, .int .i64 c1, .int .i64 d0, .int .i64 d1], .bool true]) w1))) :
    Calls Try.prog 40 #[.agg #[.int .u8 kd, .int .i64 c, .int .i64 v, .int .u8 item, .slice A1 m1 k1, .slice A2 m2 k2, .slice A3 m3 k3, .slice A4 m4 k4]] w (RetV (.bool (shapeI c v item m1 m2 m3 m4 true false a0 a1 b0 b1 c0 c1 d0 d1)) w) := by
  have HR := Lib.hid (show shapeI c v item m1 m2 m3 m4 true false a0 a1 b0 b1 c0 c1 d0 d1 = (decide (v = 0) && inI m1 a0 a1 && inI m2 b0 b1 && inI m3 c0 c1 && inI m4 d0 d1) by simp [shapeI])
  generalize shapeI c v item m1 m2 m3 m4 true false a0 a1 b0 b1 c0 c1 d0 d1 = R at *
  have HI := Lib.hid (fun n a b w1 => rWithin n a b w1)
  obtain ⟨W0, hW0⟩ : ∃ W, w.alloc (.cells #[.int .u8 kd, .int .i64 c, .int .i64 v, .int .u8 item, .slice A1 m1 k1, .slice A2 m2 k2, .slice A3 m3 k3, .slice A4 m4 k4] 31) = W := ⟨_, rfl⟩
  have x0 : Blk W0 w.heap.size 31 #[.int .u8 kd, .int .i64 c, .int .i64 v, .int .u8 item, .slice A1 m1 k1, .slice A2 m2 k2, .slice A3 m3 k3, .slice A4 m4 k4] := by rw [← hW0]; exact Blk.new w _ _
  have HX0 := Lib.hid x0
  have HK0 := Lib.hid (show Below w.heap.size w W0 by rw [← hW0]; exact (Below.refl _ _).alloc (Nat.le_refl _) _)
  have e0 := x0.cell 0
  have e1 := x0.cell 1
  have e2 := x0.cell 2
  have e3 := x0.cell 3
  have e4 := x0.cell 4
  have e5 := x0.cell 5
  have e6 := x0.cell 6
  have e7 := x0.cell 7
  simp at e0 e1 e2 e3 e4 e5 e6 e7
  clear x0
  go_enter Try.func40, Try.ntmps40
  go_upto_region 2 with (first
    | (go_at_call 46; (with_reducible refine (HF.out _).mono ?_); rintro e1 w1 ⟨rfl, hb1⟩
       have HS : Hid (LkAt w (w1.alloc (.cells #[.bool true, .bool false, .bool true, .int .i64 a0, .int .i64 a1, .int .i64 b0, .int .i64 b1, .int .i64 c0, .int .i64 c1, .int .i64 d0, .int .i64 d1] 122)) w1.heap.size #[.int .u8 kd, .int .i64 c, .int .i64 v, .int .u8 item, .slice A1 m1 k1, .slice A2 m2 k2, .slice A3 m3 k3, .slice A4 m4 k4] #[.bool true, .bool false, .bool true, .int .i64 a0, .int .i64 a1, .int .i64 b0, .int .i64 b1, .int .i64 c0, .int .i64 c1, .int .i64 d0, .int .i64 d1]) := Lib.hid ⟨(HK0.out.trans (hb1.mono HK0.out.size)).alloc (Nat.le_trans HK0.out.size hb1.size) _, (HX0.out.call hb1).alloc _, Blk.new w1 _ _⟩
       clear hb1))
  generalize hW1 : w1.alloc (.cells #[.bool true, .bool false, .bool true, .int .i64 a0, .int .i64 a1, .int .i64 b0, .int .i64 b1, .int .i64 c0, .int .i64 c1, .int .i64 d0, .int .i64 d1] 122) = W1 at *
  generalize w1.heap.size = g at *
  have S := HS
  clear HS
  have x1 := S.out.pb
  have x2 := S.out.fb
  have f0 := x1.cell 0
  have f1 := x1.cell 1
  have f2 := x1.cell 2
  have f3 := x1.cell 3
  have f4 := x1.cell 4
  have f5 := x1.cell 5
  have f6 := x1.cell 6
  have f7 := x1.cell 7
  simp at f0 f1 f2 f3 f4 f5 f6 f7
  have q0 := x2.cell 0
  have q1 := x2.cell 1
  have q2 := x2.cell 2
  have q3 := x2.cell 3
  have q4 := x2.cell 4
  have q5 := x2.cell 5
  have q6 := x2.cell 6
  have q7 := x2.cell 7
  have q8 := x2.cell 8
  have q9 := x2.cell 9
  have q10 := x2.cell 10
  simp at q0 q1 q2 q3 q4 q5 q6 q7 q8 q9 q10
  clear x1 x2 hW1
  go_wp2_with (first
    | (go_at_call 47; (with_reducible refine (HI.out _ _ _ _).mono ?_); rintro e1 w2 ⟨rfl, hb1⟩
       replace S := Lib.hid (S.out.call hb1)
       have x1 := S.out.pb
       have x2 := S.out.fb
       have f0 := x1.cell 0
       have f1 := x1.cell 1
       have f2 := x1.cell 2
       have f3 := x1.cell 3
       have f4 := x1.cell 4
       have f5 := x1.cell 5
       have f6 := x1.cell 6
       have f7 := x1.cell 7
       simp at f0 f1 f2 f3 f4 f5 f6 f7
       have q0 := x2.cell 0
       have q1 := x2.cell 1
       have q2 := x2.cell 2
       have q3 := x2.cell 3
       have q4 := x2.cell 4
       have q5 := x2.cell 5
       have q6 := x2.cell 6
       have q7 := x2.cell 7
       have q8 := x2.cell 8
       have q9 := x2.cell 9
       have q10 := x2.cell 10
       simp at q0 q1 q2 q3 q4 q5 q6 q7 q8 q9 q10
       clear x1 x2 hb1))
  all_goals (go_ret; exact ⟨by refine ret_bool rfl ?_; rw [HR.out]; simp_all, S.out.bel⟩)
set_option maxRecDepth 100000 in
set_option maxHeartbeats 2000000 in
theorem rLooks_no (kd : Nat) (hk : formK kd = none) (c v : Int) (item : Nat) (A1 A2 A3 A4 : Option Addr) (m1 m2 m3 m4 k1 k2 k3 k4 : Nat) (w : World) :
    Calls Try.prog 40 #[.agg #[.int .u8 kd, .int .i64 c, .int .i64 v, .int .u8 item, .slice A1 m1 k1, .slice A2 m2 k2, .slice A3 m3 k3, .slice A4 m4 k4]] w (RetV (.bool false) w) := by
  have HF := Lib.hid (fun w1 => rForms_no kd hk w1)
  obtain ⟨W0, hW0⟩ : ∃ W, w.alloc (.cells #[.int .u8 kd, .int .i64 c, .int .i64 v, .int .u8 item, .slice A1 m1 k1, .slice A2 m2 k2, .slice A3 m3 k3, .slice A4 m4 k4] 31) = W := ⟨_, rfl⟩
  have x0 : Blk W0 w.heap.size 31 #[.int .u8 kd, .int .i64 c, .int .i64 v, .int .u8 item, .slice A1 m1 k1, .slice A2 m2 k2, .slice A3 m3 k3, .slice A4 m4 k4] := by rw [← hW0]; exact Blk.new w _ _
  have HK0 := Lib.hid (show Below w.heap.size w W0 by rw [← hW0]; exact (Below.refl _ _).alloc (Nat.le_refl _) _)
  have e0 := x0.cell 0
  have e1 := x0.cell 1
  have e2 := x0.cell 2
  have e3 := x0.cell 3
  have e4 := x0.cell 4
  have e5 := x0.cell 5
  have e6 := x0.cell 6
  have e7 := x0.cell 7
  simp at e0 e1 e2 e3 e4 e5 e6 e7
  clear x0 hk
  go_enter Try.func40, Try.ntmps40
  go_wp2_with (go_at_call 46; (with_reducible refine (HF.out _).mono ?_); rintro e1 w1 ⟨rfl, hb1⟩)
  go_ret
  exact ⟨rfl, (HK0.out.trans (hb1.mono HK0.out.size)).alloc (Nat.le_trans HK0.out.size hb1.size) _⟩
/-- Which fields a process uses, and how many parts it has: right for its kind. -/
def looksB (p : KP) : Bool := match formK p.kind with
  | none => false
  | some f => shapeI p.c p.v p.item p.tos.length p.e.length p.g.length p.l.length f.c f.v f.a0 f.a1 f.b0 f.b1 f.c0 f.c1 f.d0 f.d1
theorem form_ci {k : Nat} {f : FormL} (h : formK k = some f) : f.i = f.c ∧ ¬ (f.c = true ∧ f.v = true) := by
  unfold formK at h
  split at h
  all_goals first
    | (cases h; done)
    | (injection h with h; subst h; simp)
theorem rLooks (p : KP) (w : World) : Calls Try.prog 40 #[.agg p.cells] w (RetV (.bool (looksB p)) w) := by
  unfold looksB
  cases hf : formK p.kind with
  | none => exact rLooks_no p.kind hf p.c p.v p.item p.At p.Ae p.Ag p.Al _ _ _ _ _ _ _ _ w
  | some f =>
    obtain ⟨e1, e2⟩ := form_ci hf
    have HF := Lib.hid (fun w1 => rForms_yes p.kind f hf w1)
    obtain ⟨fc, fv, fi, a0, a1, b0, b1, c0, c1, d0, d1⟩ := f
    simp only at e1 e2
    subst e1
    cases fi <;> cases fv
    · exact rLooks_ff _ _ _ _ _ _ _ _ _ _ _ _ _ _ _ _ _ _ _ _ _ _ _ _ _ HF
    · exact rLooks_ft _ _ _ _ _ _ _ _ _ _ _ _ _ _ _ _ _ _ _ _ _ _ _ _ _ HF
    · exact rLooks_tf _ _ _ _ _ _ _ _ _ _ _ _ _ _ _ _ _ _ _ _ _ _ _ _ _ HF
    · simp at e2
end Go.Proofs.Ytekamebpjjkifaa

/- Channels, places and expressions of a process itself, in the document: typed, walked; the kinds without loops. -/
namespace Go.Proofs.Ytekamebpjjkifaa
open Go.RowKit
set_option linter.unusedSimpArgs false
set_option linter.unusedVariables false

/-- The boxes of a kernel and of a process, in a world. -/
structure PdAt (w W : World) (ks ps : Array Value) : Prop where
  bel : Below w.heap.size w W
  kb : Blk W w.heap.size 34 ks
  pb : Blk W (w.heap.size + 1) 31 ps
theorem PdAt.call {w W W1 : World} {ks ps : Array Value} (h : PdAt w W ks ps) (hb : Below W.heap.size W W1) : PdAt w W1 ks ps := ⟨h.bel.trans (hb.mono h.bel.size), h.kb.call hb, h.pb.call hb⟩
theorem kpl_row {w : World} {B : Nat} {A : Option Addr} {l : List KPl} (h : kplsIn w B A l) {k : Nat} (hk : k < l.length) : ∃ b off x, A = some ⟨b, off, none⟩ ∧ b < B ∧ l[k]? = some x ∧ x.In w B ∧
    w.cell? ⟨b, off + k * 2, none⟩ = some (.int .i64 x.v) ∧ w.cell? ⟨b, off + k * 2 + 1, none⟩ = some (.slice x.A x.l.length x.c) := kpls_at h rfl hk
set_option maxRecDepth 100000 in
set_option maxHeartbeats 4000000 in
theorem rTyped_5 (k : KK) (p : KP) (hkd : p.kind = 5) (hlen : p.tos.length = 1) (B : Nat) (w : World) (hk : k.In w B) (ok : KOk k) (hi : p.One w B) (hB : B ≤ w.heap.size) :
    Calls Try.prog 41 #[.agg k.flat, .agg p.cells] w (RetV (.bool (inputA k.vars k.chans.length p.c p.item p.tos)) w) := by
  obtain ⟨W0, hW0⟩ : ∃ W, (w.alloc (.cells k.flat 34)).alloc (.cells p.cells 31) = W := ⟨_, rfl⟩
  obtain ⟨l1, l2, l3⟩ := lay2 w k.flat p.cells 34 31
  rw [hW0] at l1 l2 l3
  have K := Lib.hid l1
  have HW : Hid (∀ w1 : World, Below w.heap.size w w1 → k.In w1 B ∧ p.One w1 B ∧ B ≤ w1.heap.size) := Lib.hid fun w1 hb => ⟨hk.below (hb.mono hB), hi.below (hb.mono hB), Nat.le_trans hB hb.size⟩
  have hkw := l2.lt
  have hpw := l3.lt
  have y3 : ((p.kind : Int) == 3) = false := by simp [hkd]
  have y4 : ((p.kind : Int) == 4) = false := by simp [hkd]
  have y5 : ((p.kind : Int) == 5) = true := by simp [hkd]
  obtain ⟨x, hx⟩ := len_one hlen
  have hp0 := (HW.out W0 l1).2.1.2.1
  rw [hx] at hp0
  obtain ⟨b, off, y, hA, hb, hy, hin, c0, c1⟩ := kpl_row hp0 (k := 0) (by simp)
  obtain rfl : x = y := by simpa using hy
  rw [Nat.zero_mul, Nat.add_zero] at c0 c1
  have hbw : b < W0.heap.size := Nat.lt_of_lt_of_le hb (HW.out W0 l1).2.2
  have HIN : Hid (∀ w1 : World, Below W0.heap.size W0 w1 → x.In w1 B) := Lib.hid fun w1 h => hin.below (h.mono (HW.out W0 l1).2.2)
  simp only [KK.flat, KP.cells] at l2 l3 hW0 ⊢
  have q0 := l2.cell 0
  have q1 := l2.cell 1
  have q2 := l2.cell 2
  have q3 := l2.cell 3
  have q4 := l2.cell 4
  have q5 := l2.cell 5
  have q6 := l2.cell 6
  have q7 := l2.cell 7
  have q8 := l2.cell 8
  have q9 := l2.cell 9
  have q10 := l2.cell 10
  simp at q0 q1 q2 q3 q4 q5 q6 q7 q8 q9 q10
  have e0 := l3.cell 0
  have e1 := l3.cell 1
  have e2 := l3.cell 2
  have e3 := l3.cell 3
  have e4 := l3.cell 4
  have e5 := l3.cell 5
  have e6 := l3.cell 6
  have e7 := l3.cell 7
  simp at e0 e1 e2 e3 e4 e5 e6 e7
  clear l1 l2 l3 hk hi hkd
  rw [hlen] at hW0 e4 ⊢
  rw [hA] at e4
  clear hA hin hy hp0 hlen
  go_enter Try.func41, Try.ntmps41
  go_upto_region 12 with fail
  obtain ⟨ι, F, i0', h0', hFb, hcl⟩ := fam_below W0
  have Fq0 := fun i => ((hFb i).cell (p := ⟨w.heap.size, 0, none⟩) hkw).trans q0
  have Fq1 := fun i => ((hFb i).cell (p := ⟨w.heap.size, 1, none⟩) hkw).trans q1
  have Fq2 := fun i => ((hFb i).cell (p := ⟨w.heap.size, 2, none⟩) hkw).trans q2
  have Fq3 := fun i => ((hFb i).cell (p := ⟨w.heap.size, 3, none⟩) hkw).trans q3
  have Fq4 := fun i => ((hFb i).cell (p := ⟨w.heap.size, 4, none⟩) hkw).trans q4
  have Fq5 := fun i => ((hFb i).cell (p := ⟨w.heap.size, 5, none⟩) hkw).trans q5
  have Fq6 := fun i => ((hFb i).cell (p := ⟨w.heap.size, 6, none⟩) hkw).trans q6
  have Fq7 := fun i => ((hFb i).cell (p := ⟨w.heap.size, 7, none⟩) hkw).trans q7
  have Fq8 := fun i => ((hFb i).cell (p := ⟨w.heap.size, 8, none⟩) hkw).trans q8
  have Fq9 := fun i => ((hFb i).cell (p := ⟨w.heap.size, 9, none⟩) hkw).trans q9
  have Fq10 := fun i => ((hFb i).cell (p := ⟨w.heap.size, 10, none⟩) hkw).trans q10
  have Fe0 := fun i => ((hFb i).cell (p := ⟨w.heap.size + 1, 0, none⟩) hpw).trans e0
  have Fe1 := fun i => ((hFb i).cell (p := ⟨w.heap.size + 1, 1, none⟩) hpw).trans e1
  have Fe2 := fun i => ((hFb i).cell (p := ⟨w.heap.size + 1, 2, none⟩) hpw).trans e2
  have Fe3 := fun i => ((hFb i).cell (p := ⟨w.heap.size + 1, 3, none⟩) hpw).trans e3
  have Fe4 := fun i => ((hFb i).cell (p := ⟨w.heap.size + 1, 4, none⟩) hpw).trans e4
  have Fe5 := fun i => ((hFb i).cell (p := ⟨w.heap.size + 1, 5, none⟩) hpw).trans e5
  have Fe6 := fun i => ((hFb i).cell (p := ⟨w.heap.size + 1, 6, none⟩) hpw).trans e6
  have Fe7 := fun i => ((hFb i).cell (p := ⟨w.heap.size + 1, 7, none⟩) hpw).trans e7
  have Fc0 := fun i => ((hFb i).cell (p := ⟨b, off, none⟩) hbw).trans c0
  have Fc1 := fun i => ((hFb i).cell (p := ⟨b, off + 1, none⟩) hbw).trans c1
  have HCF := Lib.hid (fun i => rInput k p.c p.item x B (F i) (HW.out (F i) (K.out.trans ((hFb i).mono K.out.size))).1 ok (HIN.out (F i) (hFb i)) (HW.out (F i) (K.out.trans ((hFb i).mono K.out.size))).2.2)
  haveI : Nonempty ι := ⟨i0'⟩
  refine wp_region_quiet_fam F i0' h0' (by kernel_rfl) (by kernel_rfl) ?_
  repeat (go_big_quiet_step (first
    | (go_at_call 50; refine (HCF.out _).mono ?_; rintro e w4 ⟨rfl, hb4⟩; exact ⟨rfl, hcl _ _ hb4⟩)))
  refine wpQuiet_nil ?_
  intro i
  have K5 := Lib.hid (K.out.trans ((hFb i).mono K.out.size))
  go_wp2
  go_ret
  exact ⟨by rw [show inputA k.vars k.chans.length p.c p.item p.tos = inputB k.vars k.chans.length p.c p.item x by rw [hx]; rfl]; rfl, K5.out⟩
set_option maxRecDepth 100000 in
set_option maxHeartbeats 4000000 in
theorem rTyped_6 (k : KK) (p : KP) (hkd : p.kind = 6) (hlen : p.e.length = 1) (B : Nat) (w : World) (hk : k.In w B) (ok : KOk k) (hi : p.One w B) (hB : B ≤ w.heap.size) :
    Calls Try.prog 41 #[.agg k.flat, .agg p.cells] w (RetV (.bool (channelB k.chans.length p.c p.item 0 && FitsA k.vars p.e p.item)) w) := by
  obtain ⟨W0, hW0⟩ : ∃ W, (w.alloc (.cells k.flat 34)).alloc (.cells p.cells 31) = W := ⟨_, rfl⟩
  obtain ⟨l1, l2, l3⟩ := lay2 w k.flat p.cells 34 31
  rw [hW0] at l1 l2 l3
  have K := Lib.hid l1
  have HW : Hid (∀ w1 : World, Below w.heap.size w w1 → k.In w1 B ∧ p.One w1 B ∧ B ≤ w1.heap.size) := Lib.hid fun w1 hb => ⟨hk.below (hb.mono hB), hi.below (hb.mono hB), Nat.le_trans hB hb.size⟩
  have hkw := l2.lt
  have hpw := l3.lt
  have y3 : ((p.kind : Int) == 3) = false := by simp [hkd]
  have y4 : ((p.kind : Int) == 4) = false := by simp [hkd]
  have y5 : ((p.kind : Int) == 5) = false := by simp [hkd]
  have y6 : ((p.kind : Int) == 6) = true := by simp [hkd]
  obtain ⟨x, hx⟩ := len_one hlen
  have hp0 := (HW.out W0 l1).2.1.2.2.1
  rw [hx] at hp0
  obtain ⟨b, off, y, hA, hb, hy, hin, c0, c1, c2, c3, c4, c5⟩ := kes_six hp0 (k := 0) (by simp)
  obtain rfl : x = y := by simpa using hy
  rw [Nat.zero_mul, Nat.add_zero] at c0 c1 c2 c3 c4 c5
  have hbw : b < W0.heap.size := Nat.lt_of_lt_of_le hb (HW.out W0 l1).2.2
  have HIN : Hid (∀ w1 : World, Below W0.heap.size W0 w1 → x.In w1 B) := Lib.hid fun w1 h => hin.below (h.mono (HW.out W0 l1).2.2)
  simp only [KK.flat, KP.cells] at l2 l3 hW0 ⊢
  have q0 := l2.cell 0
  have q1 := l2.cell 1
  have q2 := l2.cell 2
  have q3 := l2.cell 3
  have q4 := l2.cell 4
  have q5 := l2.cell 5
  have q6 := l2.cell 6
  have q7 := l2.cell 7
  have q8 := l2.cell 8
  have q9 := l2.cell 9
  have q10 := l2.cell 10
  simp at q0 q1 q2 q3 q4 q5 q6 q7 q8 q9 q10
  have e0 := l3.cell 0
  have e1 := l3.cell 1
  have e2 := l3.cell 2
  have e3 := l3.cell 3
  have e4 := l3.cell 4
  have e5 := l3.cell 5
  have e6 := l3.cell 6
  have e7 := l3.cell 7
  simp at e0 e1 e2 e3 e4 e5 e6 e7
  clear l1 l2 l3 hk hi hkd
  rw [hlen] at hW0 e5 ⊢
  rw [hA] at e5
  clear hA hin hy hp0 hlen
  go_enter Try.func41, Try.ntmps41
  go_upto_region 14 with fail
  obtain ⟨ι, F, i0', h0', hFb, hcl⟩ := fam_below W0
  have Fq0 := fun i => ((hFb i).cell (p := ⟨w.heap.size, 0, none⟩) hkw).trans q0
  have Fq1 := fun i => ((hFb i).cell (p := ⟨w.heap.size, 1, none⟩) hkw).trans q1
  have Fq2 := fun i => ((hFb i).cell (p := ⟨w.heap.size, 2, none⟩) hkw).trans q2
  have Fq3 := fun i => ((hFb i).cell (p := ⟨w.heap.size, 3, none⟩) hkw).trans q3
  have Fq4 := fun i => ((hFb i).cell (p := ⟨w.heap.size, 4, none⟩) hkw).trans q4
  have Fq5 := fun i => ((hFb i).cell (p := ⟨w.heap.size, 5, none⟩) hkw).trans q5
  have Fq6 := fun i => ((hFb i).cell (p := ⟨w.heap.size, 6, none⟩) hkw).trans q6
  have Fq7 := fun i => ((hFb i).cell (p := ⟨w.heap.size, 7, none⟩) hkw).trans q7
  have Fq8 := fun i => ((hFb i).cell (p := ⟨w.heap.size, 8, none⟩) hkw).trans q8
  have Fq9 := fun i => ((hFb i).cell (p := ⟨w.heap.size, 9, none⟩) hkw).trans q9
  have Fq10 := fun i => ((hFb i).cell (p := ⟨w.heap.size, 10, none⟩) hkw).trans q10
  have Fe0 := fun i => ((hFb i).cell (p := ⟨w.heap.size + 1, 0, none⟩) hpw).trans e0
  have Fe1 := fun i => ((hFb i).cell (p := ⟨w.heap.size + 1, 1, none⟩) hpw).trans e1
  have Fe2 := fun i => ((hFb i).cell (p := ⟨w.heap.size + 1, 2, none⟩) hpw).trans e2
  have Fe3 := fun i => ((hFb i).cell (p := ⟨w.heap.size + 1, 3, none⟩) hpw).trans e3
  have Fe4 := fun i => ((hFb i).cell (p := ⟨w.heap.size + 1, 4, none⟩) hpw).trans e4
  have Fe5 := fun i => ((hFb i).cell (p := ⟨w.heap.size + 1, 5, none⟩) hpw).trans e5
  have Fe6 := fun i => ((hFb i).cell (p := ⟨w.heap.size + 1, 6, none⟩) hpw).trans e6
  have Fe7 := fun i => ((hFb i).cell (p := ⟨w.heap.size + 1, 7, none⟩) hpw).trans e7
  have Fc0 := fun i => ((hFb i).cell (p := ⟨b, off, none⟩) hbw).trans c0
  have Fc1 := fun i => ((hFb i).cell (p := ⟨b, off + 1, none⟩) hbw).trans c1
  have Fc2 := fun i => ((hFb i).cell (p := ⟨b, off + 2, none⟩) hbw).trans c2
  have Fc3 := fun i => ((hFb i).cell (p := ⟨b, off + 3, none⟩) hbw).trans c3
  have Fc4 := fun i => ((hFb i).cell (p := ⟨b, off + 4, none⟩) hbw).trans c4
  have Fc5 := fun i => ((hFb i).cell (p := ⟨b, off + 5, none⟩) hbw).trans c5
  have HCF := Lib.hid (fun i => rOutput k p.c p.item x B (F i) (HW.out (F i) (K.out.trans ((hFb i).mono K.out.size))).1 ok (HIN.out (F i) (hFb i)) (HW.out (F i) (K.out.trans ((hFb i).mono K.out.size))).2.2)
  haveI : Nonempty ι := ⟨i0'⟩
  refine wp_region_quiet_fam F i0' h0' (by kernel_rfl) (by kernel_rfl) ?_
  repeat (go_big_quiet_step (first
    | (go_at_call 51; refine (HCF.out _).mono ?_; rintro e w4 ⟨rfl, hb4⟩; exact ⟨rfl, hcl _ _ hb4⟩)))
  refine wpQuiet_nil ?_
  intro i
  have K5 := Lib.hid (K.out.trans ((hFb i).mono K.out.size))
  go_wp2
  go_ret
  exact ⟨by rw [show FitsA k.vars p.e p.item = FitsB k.vars x p.item by rw [hx]; rfl]; rfl, K5.out⟩
set_option maxRecDepth 100000 in
set_option maxHeartbeats 4000000 in
theorem rTyped_7 (k : KK) (p : KP) (hkd : p.kind = 7) (hlen : p.tos.length = 1) (B : Nat) (w : World) (hk : k.In w B) (ok : KOk k) (hi : p.One w B) (hB : B ≤ w.heap.size) :
    Calls Try.prog 41 #[.agg k.flat, .agg p.cells] w (RetV (.bool (placeA k.vars p.tos 1)) w) := by
  obtain ⟨W0, hW0⟩ : ∃ W, (w.alloc (.cells k.flat 34)).alloc (.cells p.cells 31) = W := ⟨_, rfl⟩
  obtain ⟨l1, l2, l3⟩ := lay2 w k.flat p.cells 34 31
  rw [hW0] at l1 l2 l3
  have K := Lib.hid l1
  have HW : Hid (∀ w1 : World, Below w.heap.size w w1 → k.In w1 B ∧ p.One w1 B ∧ B ≤ w1.heap.size) := Lib.hid fun w1 hb => ⟨hk.below (hb.mono hB), hi.below (hb.mono hB), Nat.le_trans hB hb.size⟩
  have hkw := l2.lt
  have hpw := l3.lt
  have y3 : ((p.kind : Int) == 3) = false := by simp [hkd]
  have y4 : ((p.kind : Int) == 4) = false := by simp [hkd]
  have y5 : ((p.kind : Int) == 5) = false := by simp [hkd]
  have y6 : ((p.kind : Int) == 6) = false := by simp [hkd]
  have y7 : ((p.kind : Int) == 7) = true := by simp [hkd]
  obtain ⟨x, hx⟩ := len_one hlen
  have hp0 := (HW.out W0 l1).2.1.2.1
  rw [hx] at hp0
  obtain ⟨b, off, y, hA, hb, hy, hin, c0, c1⟩ := kpl_row hp0 (k := 0) (by simp)
  obtain rfl : x = y := by simpa using hy
  rw [Nat.zero_mul, Nat.add_zero] at c0 c1
  have hbw : b < W0.heap.size := Nat.lt_of_lt_of_le hb (HW.out W0 l1).2.2
  have HIN : Hid (∀ w1 : World, Below W0.heap.size W0 w1 → x.In w1 B) := Lib.hid fun w1 h => hin.below (h.mono (HW.out W0 l1).2.2)
  simp only [KK.flat, KP.cells] at l2 l3 hW0 ⊢
  have q0 := l2.cell 0
  have q1 := l2.cell 1
  have q2 := l2.cell 2
  have q3 := l2.cell 3
  have q4 := l2.cell 4
  have q5 := l2.cell 5
  have q6 := l2.cell 6
  have q7 := l2.cell 7
  have q8 := l2.cell 8
  have q9 := l2.cell 9
  have q10 := l2.cell 10
  simp at q0 q1 q2 q3 q4 q5 q6 q7 q8 q9 q10
  have e0 := l3.cell 0
  have e1 := l3.cell 1
  have e2 := l3.cell 2
  have e3 := l3.cell 3
  have e4 := l3.cell 4
  have e5 := l3.cell 5
  have e6 := l3.cell 6
  have e7 := l3.cell 7
  simp at e0 e1 e2 e3 e4 e5 e6 e7
  clear l1 l2 l3 hk hi hkd
  rw [hlen] at hW0 e4 ⊢
  rw [hA] at e4
  clear hA hin hy hp0 hlen
  go_enter Try.func41, Try.ntmps41
  go_upto_region 16 with fail
  obtain ⟨ι, F, i0', h0', hFb, hcl⟩ := fam_below W0
  have Fq0 := fun i => ((hFb i).cell (p := ⟨w.heap.size, 0, none⟩) hkw).trans q0
  have Fq1 := fun i => ((hFb i).cell (p := ⟨w.heap.size, 1, none⟩) hkw).trans q1
  have Fq2 := fun i => ((hFb i).cell (p := ⟨w.heap.size, 2, none⟩) hkw).trans q2
  have Fq3 := fun i => ((hFb i).cell (p := ⟨w.heap.size, 3, none⟩) hkw).trans q3
  have Fq4 := fun i => ((hFb i).cell (p := ⟨w.heap.size, 4, none⟩) hkw).trans q4
  have Fq5 := fun i => ((hFb i).cell (p := ⟨w.heap.size, 5, none⟩) hkw).trans q5
  have Fq6 := fun i => ((hFb i).cell (p := ⟨w.heap.size, 6, none⟩) hkw).trans q6
  have Fq7 := fun i => ((hFb i).cell (p := ⟨w.heap.size, 7, none⟩) hkw).trans q7
  have Fq8 := fun i => ((hFb i).cell (p := ⟨w.heap.size, 8, none⟩) hkw).trans q8
  have Fq9 := fun i => ((hFb i).cell (p := ⟨w.heap.size, 9, none⟩) hkw).trans q9
  have Fq10 := fun i => ((hFb i).cell (p := ⟨w.heap.size, 10, none⟩) hkw).trans q10
  have Fe0 := fun i => ((hFb i).cell (p := ⟨w.heap.size + 1, 0, none⟩) hpw).trans e0
  have Fe1 := fun i => ((hFb i).cell (p := ⟨w.heap.size + 1, 1, none⟩) hpw).trans e1
  have Fe2 := fun i => ((hFb i).cell (p := ⟨w.heap.size + 1, 2, none⟩) hpw).trans e2
  have Fe3 := fun i => ((hFb i).cell (p := ⟨w.heap.size + 1, 3, none⟩) hpw).trans e3
  have Fe4 := fun i => ((hFb i).cell (p := ⟨w.heap.size + 1, 4, none⟩) hpw).trans e4
  have Fe5 := fun i => ((hFb i).cell (p := ⟨w.heap.size + 1, 5, none⟩) hpw).trans e5
  have Fe6 := fun i => ((hFb i).cell (p := ⟨w.heap.size + 1, 6, none⟩) hpw).trans e6
  have Fe7 := fun i => ((hFb i).cell (p := ⟨w.heap.size + 1, 7, none⟩) hpw).trans e7
  have Fc0 := fun i => ((hFb i).cell (p := ⟨b, off, none⟩) hbw).trans c0
  have Fc1 := fun i => ((hFb i).cell (p := ⟨b, off + 1, none⟩) hbw).trans c1
  have HCF := Lib.hid (fun i => (show Calls Try.prog 48 #[.slice k.Av k.vars.length k.cv, .agg x.cells, .int .u8 1] (F i) (RetV (.bool (placeB k.vars x 1)) (F i)) from rPlace16 k.vars x 1 k.Av k.cv B (F i) (HW.out (F i) (K.out.trans ((hFb i).mono K.out.size))).1.1.2.1 ok.nv (HIN.out (F i) (hFb i)) (HW.out (F i) (K.out.trans ((hFb i).mono K.out.size))).2.2))
  haveI : Nonempty ι := ⟨i0'⟩
  refine wp_region_quiet_fam F i0' h0' (by kernel_rfl) (by kernel_rfl) ?_
  repeat (go_big_quiet_step (first
    | (go_at_call 48; refine (HCF.out _).mono ?_; rintro e w4 ⟨rfl, hb4⟩; exact ⟨rfl, hcl _ _ hb4⟩)))
  refine wpQuiet_nil ?_
  intro i
  have K5 := Lib.hid (K.out.trans ((hFb i).mono K.out.size))
  go_wp2
  go_ret
  exact ⟨by rw [show placeA k.vars p.tos 1 = placeB k.vars x 1 by rw [hx]; rfl]; rfl, K5.out⟩
set_option maxRecDepth 100000 in
set_option maxHeartbeats 4000000 in
theorem rTyped_8 (k : KK) (p : KP) (hkd : p.kind = 8) (hlen : p.e.length = 1) (B : Nat) (w : World) (hk : k.In w B) (ok : KOk k) (hi : p.One w B) (hB : B ≤ w.heap.size) :
    Calls Try.prog 41 #[.agg k.flat, .agg p.cells] w (RetV (.bool (FitsA k.vars p.e 1)) w) := by
  obtain ⟨W0, hW0⟩ : ∃ W, (w.alloc (.cells k.flat 34)).alloc (.cells p.cells 31) = W := ⟨_, rfl⟩
  obtain ⟨l1, l2, l3⟩ := lay2 w k.flat p.cells 34 31
  rw [hW0] at l1 l2 l3
  have K := Lib.hid l1
  have HW : Hid (∀ w1 : World, Below w.heap.size w w1 → k.In w1 B ∧ p.One w1 B ∧ B ≤ w1.heap.size) := Lib.hid fun w1 hb => ⟨hk.below (hb.mono hB), hi.below (hb.mono hB), Nat.le_trans hB hb.size⟩
  have hkw := l2.lt
  have hpw := l3.lt
  have y3 : ((p.kind : Int) == 3) = false := by simp [hkd]
  have y4 : ((p.kind : Int) == 4) = false := by simp [hkd]
  have y5 : ((p.kind : Int) == 5) = false := by simp [hkd]
  have y6 : ((p.kind : Int) == 6) = false := by simp [hkd]
  have y7 : ((p.kind : Int) == 7) = false := by simp [hkd]
  have y8 : ((p.kind : Int) == 8) = true := by simp [hkd]
  obtain ⟨x, hx⟩ := len_one hlen
  have hp0 := (HW.out W0 l1).2.1.2.2.1
  rw [hx] at hp0
  obtain ⟨b, off, y, hA, hb, hy, hin, c0, c1, c2, c3, c4, c5⟩ := kes_six hp0 (k := 0) (by simp)
  obtain rfl : x = y := by simpa using hy
  rw [Nat.zero_mul, Nat.add_zero] at c0 c1 c2 c3 c4 c5
  have hbw : b < W0.heap.size := Nat.lt_of_lt_of_le hb (HW.out W0 l1).2.2
  have HIN : Hid (∀ w1 : World, Below W0.heap.size W0 w1 → x.In w1 B) := Lib.hid fun w1 h => hin.below (h.mono (HW.out W0 l1).2.2)
  simp only [KK.flat, KP.cells] at l2 l3 hW0 ⊢
  have q0 := l2.cell 0
  have q1 := l2.cell 1
  have q2 := l2.cell 2
  have q3 := l2.cell 3
  have q4 := l2.cell 4
  have q5 := l2.cell 5
  have q6 := l2.cell 6
  have q7 := l2.cell 7
  have q8 := l2.cell 8
  have q9 := l2.cell 9
  have q10 := l2.cell 10
  simp at q0 q1 q2 q3 q4 q5 q6 q7 q8 q9 q10
  have e0 := l3.cell 0
  have e1 := l3.cell 1
  have e2 := l3.cell 2
  have e3 := l3.cell 3
  have e4 := l3.cell 4
  have e5 := l3.cell 5
  have e6 := l3.cell 6
  have e7 := l3.cell 7
  simp at e0 e1 e2 e3 e4 e5 e6 e7
  clear l1 l2 l3 hk hi hkd
  rw [hlen] at hW0 e5 ⊢
  rw [hA] at e5
  clear hA hin hy hp0 hlen
  go_enter Try.func41, Try.ntmps41
  go_upto_region 18 with fail
  obtain ⟨ι, F, i0', h0', hFb, hcl⟩ := fam_below W0
  have Fq0 := fun i => ((hFb i).cell (p := ⟨w.heap.size, 0, none⟩) hkw).trans q0
  have Fq1 := fun i => ((hFb i).cell (p := ⟨w.heap.size, 1, none⟩) hkw).trans q1
  have Fq2 := fun i => ((hFb i).cell (p := ⟨w.heap.size, 2, none⟩) hkw).trans q2
  have Fq3 := fun i => ((hFb i).cell (p := ⟨w.heap.size, 3, none⟩) hkw).trans q3
  have Fq4 := fun i => ((hFb i).cell (p := ⟨w.heap.size, 4, none⟩) hkw).trans q4
  have Fq5 := fun i => ((hFb i).cell (p := ⟨w.heap.size, 5, none⟩) hkw).trans q5
  have Fq6 := fun i => ((hFb i).cell (p := ⟨w.heap.size, 6, none⟩) hkw).trans q6
  have Fq7 := fun i => ((hFb i).cell (p := ⟨w.heap.size, 7, none⟩) hkw).trans q7
  have Fq8 := fun i => ((hFb i).cell (p := ⟨w.heap.size, 8, none⟩) hkw).trans q8
  have Fq9 := fun i => ((hFb i).cell (p := ⟨w.heap.size, 9, none⟩) hkw).trans q9
  have Fq10 := fun i => ((hFb i).cell (p := ⟨w.heap.size, 10, none⟩) hkw).trans q10
  have Fe0 := fun i => ((hFb i).cell (p := ⟨w.heap.size + 1, 0, none⟩) hpw).trans e0
  have Fe1 := fun i => ((hFb i).cell (p := ⟨w.heap.size + 1, 1, none⟩) hpw).trans e1
  have Fe2 := fun i => ((hFb i).cell (p := ⟨w.heap.size + 1, 2, none⟩) hpw).trans e2
  have Fe3 := fun i => ((hFb i).cell (p := ⟨w.heap.size + 1, 3, none⟩) hpw).trans e3
  have Fe4 := fun i => ((hFb i).cell (p := ⟨w.heap.size + 1, 4, none⟩) hpw).trans e4
  have Fe5 := fun i => ((hFb i).cell (p := ⟨w.heap.size + 1, 5, none⟩) hpw).trans e5
  have Fe6 := fun i => ((hFb i).cell (p := ⟨w.heap.size + 1, 6, none⟩) hpw).trans e6
  have Fe7 := fun i => ((hFb i).cell (p := ⟨w.heap.size + 1, 7, none⟩) hpw).trans e7
  have Fc0 := fun i => ((hFb i).cell (p := ⟨b, off, none⟩) hbw).trans c0
  have Fc1 := fun i => ((hFb i).cell (p := ⟨b, off + 1, none⟩) hbw).trans c1
  have Fc2 := fun i => ((hFb i).cell (p := ⟨b, off + 2, none⟩) hbw).trans c2
  have Fc3 := fun i => ((hFb i).cell (p := ⟨b, off + 3, none⟩) hbw).trans c3
  have Fc4 := fun i => ((hFb i).cell (p := ⟨b, off + 4, none⟩) hbw).trans c4
  have Fc5 := fun i => ((hFb i).cell (p := ⟨b, off + 5, none⟩) hbw).trans c5
  have HCF := Lib.hid (fun i => (show Calls Try.prog 49 #[.slice k.Av k.vars.length k.cv, .agg x.cells, .int .u8 1] (F i) (RetV (.bool (FitsB k.vars x 1)) (F i)) from rFitsV k.vars x 1 (by simp) k.Av k.cv B (F i) (HW.out (F i) (K.out.trans ((hFb i).mono K.out.size))).1.1.2.1 ok.nv (HIN.out (F i) (hFb i)) (HW.out (F i) (K.out.trans ((hFb i).mono K.out.size))).2.2))
  haveI : Nonempty ι := ⟨i0'⟩
  refine wp_region_quiet_fam F i0' h0' (by kernel_rfl) (by kernel_rfl) ?_
  repeat (go_big_quiet_step (first
    | (go_at_call 49; refine (HCF.out _).mono ?_; rintro e w4 ⟨rfl, hb4⟩; exact ⟨rfl, hcl _ _ hb4⟩)))
  refine wpQuiet_nil ?_
  intro i
  have K5 := Lib.hid (K.out.trans ((hFb i).mono K.out.size))
  go_wp2
  go_ret
  exact ⟨by rw [show FitsA k.vars p.e 1 = FitsB k.vars x 1 by rw [hx]; rfl]; rfl, K5.out⟩
set_option maxRecDepth 100000 in
set_option maxHeartbeats 4000000 in
theorem rTyped_13 (k : KK) (p : KP) (hkd : p.kind = 13) (hlen : p.e.length = 1) (B : Nat) (w : World) (hk : k.In w B) (ok : KOk k) (hi : p.One w B) (hB : B ≤ w.heap.size) :
    Calls Try.prog 41 #[.agg k.flat, .agg p.cells] w (RetV (.bool (FitsA k.vars p.e 3)) w) := by
  obtain ⟨W0, hW0⟩ : ∃ W, (w.alloc (.cells k.flat 34)).alloc (.cells p.cells 31) = W := ⟨_, rfl⟩
  obtain ⟨l1, l2, l3⟩ := lay2 w k.flat p.cells 34 31
  rw [hW0] at l1 l2 l3
  have K := Lib.hid l1
  have HW : Hid (∀ w1 : World, Below w.heap.size w w1 → k.In w1 B ∧ p.One w1 B ∧ B ≤ w1.heap.size) := Lib.hid fun w1 hb => ⟨hk.below (hb.mono hB), hi.below (hb.mono hB), Nat.le_trans hB hb.size⟩
  have hkw := l2.lt
  have hpw := l3.lt
  have y3 : ((p.kind : Int) == 3) = false := by simp [hkd]
  have y4 : ((p.kind : Int) == 4) = false := by simp [hkd]
  have y5 : ((p.kind : Int) == 5) = false := by simp [hkd]
  have y6 : ((p.kind : Int) == 6) = false := by simp [hkd]
  have y7 : ((p.kind : Int) == 7) = false := by simp [hkd]
  have y8 : ((p.kind : Int) == 8) = false := by simp [hkd]
  have y13 : ((p.kind : Int) == 13) = true := by simp [hkd]
  obtain ⟨x, hx⟩ := len_one hlen
  have hp0 := (HW.out W0 l1).2.1.2.2.1
  rw [hx] at hp0
  obtain ⟨b, off, y, hA, hb, hy, hin, c0, c1, c2, c3, c4, c5⟩ := kes_six hp0 (k := 0) (by simp)
  obtain rfl : x = y := by simpa using hy
  rw [Nat.zero_mul, Nat.add_zero] at c0 c1 c2 c3 c4 c5
  have hbw : b < W0.heap.size := Nat.lt_of_lt_of_le hb (HW.out W0 l1).2.2
  have HIN : Hid (∀ w1 : World, Below W0.heap.size W0 w1 → x.In w1 B) := Lib.hid fun w1 h => hin.below (h.mono (HW.out W0 l1).2.2)
  simp only [KK.flat, KP.cells] at l2 l3 hW0 ⊢
  have q0 := l2.cell 0
  have q1 := l2.cell 1
  have q2 := l2.cell 2
  have q3 := l2.cell 3
  have q4 := l2.cell 4
  have q5 := l2.cell 5
  have q6 := l2.cell 6
  have q7 := l2.cell 7
  have q8 := l2.cell 8
  have q9 := l2.cell 9
  have q10 := l2.cell 10
  simp at q0 q1 q2 q3 q4 q5 q6 q7 q8 q9 q10
  have e0 := l3.cell 0
  have e1 := l3.cell 1
  have e2 := l3.cell 2
  have e3 := l3.cell 3
  have e4 := l3.cell 4
  have e5 := l3.cell 5
  have e6 := l3.cell 6
  have e7 := l3.cell 7
  simp at e0 e1 e2 e3 e4 e5 e6 e7
  clear l1 l2 l3 hk hi hkd
  rw [hlen] at hW0 e5 ⊢
  rw [hA] at e5
  clear hA hin hy hp0 hlen
  go_enter Try.func41, Try.ntmps41
  go_upto_region 20 with fail
  obtain ⟨ι, F, i0', h0', hFb, hcl⟩ := fam_below W0
  have Fq0 := fun i => ((hFb i).cell (p := ⟨w.heap.size, 0, none⟩) hkw).trans q0
  have Fq1 := fun i => ((hFb i).cell (p := ⟨w.heap.size, 1, none⟩) hkw).trans q1
  have Fq2 := fun i => ((hFb i).cell (p := ⟨w.heap.size, 2, none⟩) hkw).trans q2
  have Fq3 := fun i => ((hFb i).cell (p := ⟨w.heap.size, 3, none⟩) hkw).trans q3
  have Fq4 := fun i => ((hFb i).cell (p := ⟨w.heap.size, 4, none⟩) hkw).trans q4
  have Fq5 := fun i => ((hFb i).cell (p := ⟨w.heap.size, 5, none⟩) hkw).trans q5
  have Fq6 := fun i => ((hFb i).cell (p := ⟨w.heap.size, 6, none⟩) hkw).trans q6
  have Fq7 := fun i => ((hFb i).cell (p := ⟨w.heap.size, 7, none⟩) hkw).trans q7
  have Fq8 := fun i => ((hFb i).cell (p := ⟨w.heap.size, 8, none⟩) hkw).trans q8
  have Fq9 := fun i => ((hFb i).cell (p := ⟨w.heap.size, 9, none⟩) hkw).trans q9
  have Fq10 := fun i => ((hFb i).cell (p := ⟨w.heap.size, 10, none⟩) hkw).trans q10
  have Fe0 := fun i => ((hFb i).cell (p := ⟨w.heap.size + 1, 0, none⟩) hpw).trans e0
  have Fe1 := fun i => ((hFb i).cell (p := ⟨w.heap.size + 1, 1, none⟩) hpw).trans e1
  have Fe2 := fun i => ((hFb i).cell (p := ⟨w.heap.size + 1, 2, none⟩) hpw).trans e2
  have Fe3 := fun i => ((hFb i).cell (p := ⟨w.heap.size + 1, 3, none⟩) hpw).trans e3
  have Fe4 := fun i => ((hFb i).cell (p := ⟨w.heap.size + 1, 4, none⟩) hpw).trans e4
  have Fe5 := fun i => ((hFb i).cell (p := ⟨w.heap.size + 1, 5, none⟩) hpw).trans e5
  have Fe6 := fun i => ((hFb i).cell (p := ⟨w.heap.size + 1, 6, none⟩) hpw).trans e6
  have Fe7 := fun i => ((hFb i).cell (p := ⟨w.heap.size + 1, 7, none⟩) hpw).trans e7
  have Fc0 := fun i => ((hFb i).cell (p := ⟨b, off, none⟩) hbw).trans c0
  have Fc1 := fun i => ((hFb i).cell (p := ⟨b, off + 1, none⟩) hbw).trans c1
  have Fc2 := fun i => ((hFb i).cell (p := ⟨b, off + 2, none⟩) hbw).trans c2
  have Fc3 := fun i => ((hFb i).cell (p := ⟨b, off + 3, none⟩) hbw).trans c3
  have Fc4 := fun i => ((hFb i).cell (p := ⟨b, off + 4, none⟩) hbw).trans c4
  have Fc5 := fun i => ((hFb i).cell (p := ⟨b, off + 5, none⟩) hbw).trans c5
  have HCF := Lib.hid (fun i => (show Calls Try.prog 49 #[.slice k.Av k.vars.length k.cv, .agg x.cells, .int .u8 3] (F i) (RetV (.bool (FitsB k.vars x 3)) (F i)) from rFitsV k.vars x 3 (by simp) k.Av k.cv B (F i) (HW.out (F i) (K.out.trans ((hFb i).mono K.out.size))).1.1.2.1 ok.nv (HIN.out (F i) (hFb i)) (HW.out (F i) (K.out.trans ((hFb i).mono K.out.size))).2.2))
  haveI : Nonempty ι := ⟨i0'⟩
  refine wp_region_quiet_fam F i0' h0' (by kernel_rfl) (by kernel_rfl) ?_
  repeat (go_big_quiet_step (first
    | (go_at_call 49; refine (HCF.out _).mono ?_; rintro e w4 ⟨rfl, hb4⟩; exact ⟨rfl, hcl _ _ hb4⟩)))
  refine wpQuiet_nil ?_
  intro i
  have K5 := Lib.hid (K.out.trans ((hFb i).mono K.out.size))
  go_wp2
  go_ret
  exact ⟨by rw [show FitsA k.vars p.e 3 = FitsB k.vars x 3 by rw [hx]; rfl]; rfl, K5.out⟩
set_option maxRecDepth 100000 in
set_option maxHeartbeats 4000000 in
theorem rTyped_3 (k : KK) (p : KP) (hkd : p.kind = 3)  (B : Nat) (w : World) (hk : k.In w B) (ok : KOk k) (hi : p.One w B) (hB : B ≤ w.heap.size) :
    Calls Try.prog 41 #[.agg k.flat, .agg p.cells] w (RetV (.bool (decide (0 ≤ p.v ∧ p.v < k.vars.length))) w) := by
  obtain ⟨W0, hW0⟩ : ∃ W, (w.alloc (.cells k.flat 34)).alloc (.cells p.cells 31) = W := ⟨_, rfl⟩
  obtain ⟨l1, l2, l3⟩ := lay2 w k.flat p.cells 34 31
  rw [hW0] at l1 l2 l3
  have K := Lib.hid l1
  have HW : Hid (∀ w1 : World, Below w.heap.size w w1 → k.In w1 B ∧ p.One w1 B ∧ B ≤ w1.heap.size) := Lib.hid fun w1 hb => ⟨hk.below (hb.mono hB), hi.below (hb.mono hB), Nat.le_trans hB hb.size⟩
  have hkw := l2.lt
  have hpw := l3.lt
  have y3 : ((p.kind : Int) == 3) = true := by simp [hkd]
  simp only [KK.flat, KP.cells] at l2 l3 hW0 ⊢
  have q0 := l2.cell 0
  have q1 := l2.cell 1
  have q2 := l2.cell 2
  have q3 := l2.cell 3
  have q4 := l2.cell 4
  have q5 := l2.cell 5
  have q6 := l2.cell 6
  have q7 := l2.cell 7
  have q8 := l2.cell 8
  have q9 := l2.cell 9
  have q10 := l2.cell 10
  simp at q0 q1 q2 q3 q4 q5 q6 q7 q8 q9 q10
  have e0 := l3.cell 0
  have e1 := l3.cell 1
  have e2 := l3.cell 2
  have e3 := l3.cell 3
  have e4 := l3.cell 4
  have e5 := l3.cell 5
  have e6 := l3.cell 6
  have e7 := l3.cell 7
  simp at e0 e1 e2 e3 e4 e5 e6 e7
  clear l1 l2 l3 hk hi hkd
  by_cases h0 : 0 ≤ p.v
  · have HR := Lib.hid (show decide (0 ≤ p.v ∧ p.v < k.vars.length) = decide (p.v < k.vars.length) by rw [decide_eq_decide]; omega)
    generalize decide (0 ≤ p.v ∧ p.v < k.vars.length) = R at *
    go_enter Try.func41, Try.ntmps41
    go_wp2
    go_ret
    exact ⟨by refine ret_bool rfl ?_; rw [HR.out], K.out⟩
  · have HR := Lib.hid (show decide (0 ≤ p.v ∧ p.v < k.vars.length) = false by rw [decide_eq_false]; omega)
    generalize decide (0 ≤ p.v ∧ p.v < k.vars.length) = R at *
    go_enter Try.func41, Try.ntmps41
    go_wp2
    go_ret
    exact ⟨by refine ret_bool rfl ?_; rw [HR.out], K.out⟩
end Go.Proofs.Ytekamebpjjkifaa
