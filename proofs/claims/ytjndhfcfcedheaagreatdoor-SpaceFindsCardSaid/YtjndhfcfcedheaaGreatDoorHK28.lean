/- Texts that belong together: KU. -/
import Derived.Test.YtjndhfcfcedheaaGreatDoorHK6
set_option linter.unusedVariables false
set_option linter.unusedSimpArgs false
set_option maxRecDepth 100000
set_option maxHeartbeats 16000000
namespace Go.Proofs.YtjndhfcfcedheaaGreatDoor
open Go.RowKit
def inI (n a b:Int):Bool:=decide (a≤n∧n≤b)
theorem kIn (n a b:Int) (w:World):Calls Tryz.prog 100 #[.int .i64 n,.agg #[.int .i64 a,.int .i64 b]] w (Zu (.bool (inI n a b)) w):=by
 have K0:Hid (Below w.heap.size w (w.alloc (.cells #[.int .i64 a,.int .i64 b] 35))):=Lh ((Below.refl _ _).alloc (Nat.le_refl _) _)
 by_cases h1:a≤n
 ·have HR:=Lh (show inI n a b=decide (n≤b) by simp [inI,h1]);go_enter Tryz.func100,Tryz.ntmps100
  go_wp2
  go_ret;exact ⟨by refine Za rfl ?_; rw [HR.out],K0.out⟩
 ·have HR:=Lh (show inI n a b=false by simp [inI,h1]);go_enter Tryz.func100,Tryz.ntmps100
  go_wp2
  go_ret;exact ⟨by refine Za rfl ?_; rw [HR.out],K0.out⟩
structure Zn4 (w W:World) (cs:Array Value) (a0 a1 b0 b1 c0 c1 d0 d1:Int):Prop where
 bel:Below w.heap.size w W
 p:Blk W w.heap.size 31 cs
 a:Blk W (w.heap.size+1) 35 #[.int .i64 a0,.int .i64 a1]
 b:Blk W (w.heap.size+1+1) 35 #[.int .i64 b0,.int .i64 b1]
 c:Blk W (w.heap.size+1+1+1) 35 #[.int .i64 c0,.int .i64 c1]
 d:Blk W (w.heap.size+1+1+1+1) 35 #[.int .i64 d0,.int .i64 d1]
theorem Zn4.call {w W W1:World} {cs:Array Value} {a0 a1 b0 b1 c0 c1 d0 d1:Int} (h:Zn4 w W cs a0 a1 b0 b1 c0 c1 d0 d1) (hb:Below W.heap.size W W1):Zn4 w W1 cs a0 a1 b0 b1 c0 c1 d0 d1 :=
 ⟨h.bel.trans (hb.mono h.bel.size),h.p.call hb,h.a.call hb,h.b.call hb,h.c.call hb,h.d.call hb⟩
theorem Zn4.new (w:World) (cs:Array Value) (a0 a1 b0 b1 c0 c1 d0 d1:Int) :
  Zn4 w (((((w.alloc (.cells cs 31)).alloc (.cells #[.int .i64 a0,.int .i64 a1] 35)).alloc (.cells #[.int .i64 b0,.int .i64 b1] 35)).alloc (.cells #[.int .i64 c0,.int .i64 c1] 35)).alloc (.cells #[.int .i64 d0,.int .i64 d1] 35)) cs a0 a1 b0 b1 c0 c1 d0 d1:=by
 have k1:Below w.heap.size w (w.alloc (.cells cs 31)):=(Below.refl _ _).alloc (Nat.le_refl _) _;generalize hw1:w.alloc (.cells cs 31)=w1 at *
 have s1:w1.heap.size=w.heap.size+1:=by rw [← hw1]; simp
 have p1:Blk w1 w.heap.size 31 cs:=by rw [← hw1]; exact Blk.new _ _ _
 have k2:Below w1.heap.size w1 (w1.alloc (.cells #[.int .i64 a0,.int .i64 a1] 35)):=(Below.refl _ _).alloc (Nat.le_refl _) _;have q1:Blk (w1.alloc (.cells #[.int .i64 a0,.int .i64 a1] 35)) w1.heap.size 35 #[.int .i64 a0,.int .i64 a1]:=Blk.new _ _ _;generalize hw2:w1.alloc (.cells #[.int .i64 a0,.int .i64 a1] 35)=w2 at *
 have s2:w2.heap.size=w1.heap.size+1:=by rw [← hw2]; simp
 have k3:Below w2.heap.size w2 (w2.alloc (.cells #[.int .i64 b0,.int .i64 b1] 35)):=(Below.refl _ _).alloc (Nat.le_refl _) _;have q2:Blk (w2.alloc (.cells #[.int .i64 b0,.int .i64 b1] 35)) w2.heap.size 35 #[.int .i64 b0,.int .i64 b1]:=Blk.new _ _ _;generalize hw3:w2.alloc (.cells #[.int .i64 b0,.int .i64 b1] 35)=w3 at *
 have s3:w3.heap.size=w2.heap.size+1:=by rw [← hw3]; simp
 have k4:Below w3.heap.size w3 (w3.alloc (.cells #[.int .i64 c0,.int .i64 c1] 35)):=(Below.refl _ _).alloc (Nat.le_refl _) _;have q3:Blk (w3.alloc (.cells #[.int .i64 c0,.int .i64 c1] 35)) w3.heap.size 35 #[.int .i64 c0,.int .i64 c1]:=Blk.new _ _ _;generalize hw4:w3.alloc (.cells #[.int .i64 c0,.int .i64 c1] 35)=w4 at *
 have s4:w4.heap.size=w3.heap.size+1:=by rw [← hw4]; simp
 have k5:Below w4.heap.size w4 (w4.alloc (.cells #[.int .i64 d0,.int .i64 d1] 35)):=(Below.refl _ _).alloc (Nat.le_refl _) _;have q4:Blk (w4.alloc (.cells #[.int .i64 d0,.int .i64 d1] 35)) w4.heap.size 35 #[.int .i64 d0,.int .i64 d1]:=Blk.new _ _ _
 refine ⟨k1.trans ((k2.trans ((k3.trans ((k4.trans (k5.mono k4.size)).mono k3.size)).mono k2.size)).mono k1.size),
  (((p1.call k2).call k3).call k4).call k5,?_,?_,?_,?_⟩
 ·rw [← s1]; exact ((q1.call k3).call k4).call k5
 ·rw [← s1,← s2]; exact (q2.call k4).call k5
 ·rw [← s1,← s2,← s3]; exact q3.call k5
 ·rw [← s1,← s2,← s3,← s4]; exact q4
def Zac (c v:Int) (item:Nat) (m1 m2 m3 m4:Nat) (ch vv:Bool) (a0 a1 b0 b1 c0 c1 d0 d1:Int):Bool :=
 (ch || decide (c=0∧item=0)) && (vv || decide (v=0)) && inI m1 a0 a1 && inI m2 b0 b1 && inI m3 c0 c1 && inI m4 d0 d1
theorem Zlr (kd:Nat) (c v:Int) (item:Nat) (A1 A2 A3 A4:Option Addr) (m1 m2 m3 m4 k1 k2 k3 k4:Nat) (a0 a1 b0 b1 c0 c1 d0 d1:Int) (w:World) :
  Calls Tryz.prog 88 #[.agg #[.int .u8 kd,.int .i64 c,.int .i64 v,.int .u8 item,.slice A1 m1 k1,.slice A2 m2 k2,.slice A3 m3 k3,.slice A4 m4 k4],.bool false,.bool false,.agg #[.int .i64 a0,.int .i64 a1],.agg #[.int .i64 b0,.int .i64 b1],.agg #[.int .i64 c0,.int .i64 c1],.agg #[.int .i64 d0,.int .i64 d1]] w
   (Zu (.bool (Zac c v item m1 m2 m3 m4 false false a0 a1 b0 b1 c0 c1 d0 d1)) w):=by
 have HR:=Lh (show Zac c v item m1 m2 m3 m4 false false a0 a1 b0 b1 c0 c1 d0 d1=(decide (c=0∧item=0) && decide (v=0) && inI m1 a0 a1 && inI m2 b0 b1 && inI m3 c0 c1 && inI m4 d0 d1) by simp [Zac]);generalize Zac c v item m1 m2 m3 m4 false false a0 a1 b0 b1 c0 c1 d0 d1=R at *;have HI:=Lh (fun n a b w1=>kIn n a b w1);have hS:=Zn4.new w #[.int .u8 kd,.int .i64 c,.int .i64 v,.int .u8 item,.slice A1 m1 k1,.slice A2 m2 k2,.slice A3 m3 k3,.slice A4 m4 k4] a0 a1 b0 b1 c0 c1 d0 d1;generalize hW:(((((w.alloc (.cells #[.int .u8 kd,.int .i64 c,.int .i64 v,.int .u8 item,.slice A1 m1 k1,.slice A2 m2 k2,.slice A3 m3 k3,.slice A4 m4 k4] 31)).alloc (.cells #[.int .i64 a0,.int .i64 a1] 35)).alloc (.cells #[.int .i64 b0,.int .i64 b1] 35)).alloc (.cells #[.int .i64 c0,.int .i64 c1] 35)).alloc (.cells #[.int .i64 d0,.int .i64 d1] 35))=W at hS;have x0:=hS.p;have x1:=hS.a;have x2:=hS.b;have x3:=hS.c;have x4:=hS.d;obtain ⟨e0,e1,e2,e3,e4,e5,e6,e7⟩:=x0.c8;simp at e0 e1 e2 e3 e4 e5 e6 e7;obtain ⟨f0,f1⟩:=x1.c2;simp at f0 f1;obtain ⟨g0,g1⟩:=x2.c2;simp at g0 g1;obtain ⟨h0,h1⟩:=x3.c2;simp at h0 h1;obtain ⟨i0,i1⟩:=x4.c2;simp at i0 i1;have S:=Lh hS;clear hS x0 x1 x2 x3 x4;go_enter Tryz.func88,Tryz.ntmps88
 go_wp2_with (first
  | (go_at_call 100; (with_reducible refine (HI.out _ _ _ _).mono ?_); rintro e1 w1 ⟨rfl,hb1⟩
     replace S:=Lh (S.out.call hb1);have x0:=S.out.p;have x2:=S.out.b;have x3:=S.out.c;have x4:=S.out.d;obtain ⟨e0,e1,e2,e3,e4,e5,e6,e7⟩:=x0.c8;simp at e0 e1 e2 e3 e4 e5 e6 e7;obtain ⟨g0,g1⟩:=x2.c2;simp at g0 g1;obtain ⟨h0,h1⟩:=x3.c2;simp at h0 h1;obtain ⟨i0,i1⟩:=x4.c2;simp at i0 i1
     clear x0 x2 x3 x4 hb1))
 all_goals (go_ret; exact ⟨by refine Za rfl ?_; rw [HR.out]; simp_all,S.out.bel⟩)
theorem Zlq (kd:Nat) (c v:Int) (item:Nat) (A1 A2 A3 A4:Option Addr) (m1 m2 m3 m4 k1 k2 k3 k4:Nat) (a0 a1 b0 b1 c0 c1 d0 d1:Int) (w:World) :
  Calls Tryz.prog 88 #[.agg #[.int .u8 kd,.int .i64 c,.int .i64 v,.int .u8 item,.slice A1 m1 k1,.slice A2 m2 k2,.slice A3 m3 k3,.slice A4 m4 k4],.bool false,.bool true,.agg #[.int .i64 a0,.int .i64 a1],.agg #[.int .i64 b0,.int .i64 b1],.agg #[.int .i64 c0,.int .i64 c1],.agg #[.int .i64 d0,.int .i64 d1]] w
   (Zu (.bool (Zac c v item m1 m2 m3 m4 false true a0 a1 b0 b1 c0 c1 d0 d1)) w):=by
 have HR:=Lh (show Zac c v item m1 m2 m3 m4 false true a0 a1 b0 b1 c0 c1 d0 d1=(decide (c=0∧item=0) && inI m1 a0 a1 && inI m2 b0 b1 && inI m3 c0 c1 && inI m4 d0 d1) by simp [Zac]);generalize Zac c v item m1 m2 m3 m4 false true a0 a1 b0 b1 c0 c1 d0 d1=R at *;have HI:=Lh (fun n a b w1=>kIn n a b w1);have hS:=Zn4.new w #[.int .u8 kd,.int .i64 c,.int .i64 v,.int .u8 item,.slice A1 m1 k1,.slice A2 m2 k2,.slice A3 m3 k3,.slice A4 m4 k4] a0 a1 b0 b1 c0 c1 d0 d1;generalize hW:(((((w.alloc (.cells #[.int .u8 kd,.int .i64 c,.int .i64 v,.int .u8 item,.slice A1 m1 k1,.slice A2 m2 k2,.slice A3 m3 k3,.slice A4 m4 k4] 31)).alloc (.cells #[.int .i64 a0,.int .i64 a1] 35)).alloc (.cells #[.int .i64 b0,.int .i64 b1] 35)).alloc (.cells #[.int .i64 c0,.int .i64 c1] 35)).alloc (.cells #[.int .i64 d0,.int .i64 d1] 35))=W at hS;have x0:=hS.p;have x1:=hS.a;have x2:=hS.b;have x3:=hS.c;have x4:=hS.d;obtain ⟨e0,e1,e2,e3,e4,e5,e6,e7⟩:=x0.c8;simp at e0 e1 e2 e3 e4 e5 e6 e7;obtain ⟨f0,f1⟩:=x1.c2;simp at f0 f1;obtain ⟨g0,g1⟩:=x2.c2;simp at g0 g1;obtain ⟨h0,h1⟩:=x3.c2;simp at h0 h1;obtain ⟨i0,i1⟩:=x4.c2;simp at i0 i1;have S:=Lh hS;clear hS x0 x1 x2 x3 x4;go_enter Tryz.func88,Tryz.ntmps88
 go_wp2_with (first
  | (go_at_call 100; (with_reducible refine (HI.out _ _ _ _).mono ?_); rintro e1 w1 ⟨rfl,hb1⟩
     replace S:=Lh (S.out.call hb1);have x0:=S.out.p;have x2:=S.out.b;have x3:=S.out.c;have x4:=S.out.d;obtain ⟨e0,e1,e2,e3,e4,e5,e6,e7⟩:=x0.c8;simp at e0 e1 e2 e3 e4 e5 e6 e7;obtain ⟨g0,g1⟩:=x2.c2;simp at g0 g1;obtain ⟨h0,h1⟩:=x3.c2;simp at h0 h1;obtain ⟨i0,i1⟩:=x4.c2;simp at i0 i1
     clear x0 x2 x3 x4 hb1))
 all_goals (go_ret; exact ⟨by refine Za rfl ?_; rw [HR.out]; simp_all,S.out.bel⟩)
theorem Zlp (kd:Nat) (c v:Int) (item:Nat) (A1 A2 A3 A4:Option Addr) (m1 m2 m3 m4 k1 k2 k3 k4:Nat) (a0 a1 b0 b1 c0 c1 d0 d1:Int) (w:World) :
  Calls Tryz.prog 88 #[.agg #[.int .u8 kd,.int .i64 c,.int .i64 v,.int .u8 item,.slice A1 m1 k1,.slice A2 m2 k2,.slice A3 m3 k3,.slice A4 m4 k4],.bool true,.bool false,.agg #[.int .i64 a0,.int .i64 a1],.agg #[.int .i64 b0,.int .i64 b1],.agg #[.int .i64 c0,.int .i64 c1],.agg #[.int .i64 d0,.int .i64 d1]] w
   (Zu (.bool (Zac c v item m1 m2 m3 m4 true false a0 a1 b0 b1 c0 c1 d0 d1)) w):=by
 have HR:=Lh (show Zac c v item m1 m2 m3 m4 true false a0 a1 b0 b1 c0 c1 d0 d1=(decide (v=0) && inI m1 a0 a1 && inI m2 b0 b1 && inI m3 c0 c1 && inI m4 d0 d1) by simp [Zac]);generalize Zac c v item m1 m2 m3 m4 true false a0 a1 b0 b1 c0 c1 d0 d1=R at *;have HI:=Lh (fun n a b w1=>kIn n a b w1);have hS:=Zn4.new w #[.int .u8 kd,.int .i64 c,.int .i64 v,.int .u8 item,.slice A1 m1 k1,.slice A2 m2 k2,.slice A3 m3 k3,.slice A4 m4 k4] a0 a1 b0 b1 c0 c1 d0 d1;generalize hW:(((((w.alloc (.cells #[.int .u8 kd,.int .i64 c,.int .i64 v,.int .u8 item,.slice A1 m1 k1,.slice A2 m2 k2,.slice A3 m3 k3,.slice A4 m4 k4] 31)).alloc (.cells #[.int .i64 a0,.int .i64 a1] 35)).alloc (.cells #[.int .i64 b0,.int .i64 b1] 35)).alloc (.cells #[.int .i64 c0,.int .i64 c1] 35)).alloc (.cells #[.int .i64 d0,.int .i64 d1] 35))=W at hS;have x0:=hS.p;have x1:=hS.a;have x2:=hS.b;have x3:=hS.c;have x4:=hS.d;obtain ⟨e0,e1,e2,e3,e4,e5,e6,e7⟩:=x0.c8;simp at e0 e1 e2 e3 e4 e5 e6 e7;obtain ⟨f0,f1⟩:=x1.c2;simp at f0 f1;obtain ⟨g0,g1⟩:=x2.c2;simp at g0 g1;obtain ⟨h0,h1⟩:=x3.c2;simp at h0 h1;obtain ⟨i0,i1⟩:=x4.c2;simp at i0 i1;have S:=Lh hS;clear hS x0 x1 x2 x3 x4;go_enter Tryz.func88,Tryz.ntmps88
 go_wp2_with (first
  | (go_at_call 100; (with_reducible refine (HI.out _ _ _ _).mono ?_); rintro e1 w1 ⟨rfl,hb1⟩
     replace S:=Lh (S.out.call hb1);have x0:=S.out.p;have x2:=S.out.b;have x3:=S.out.c;have x4:=S.out.d;obtain ⟨e0,e1,e2,e3,e4,e5,e6,e7⟩:=x0.c8;simp at e0 e1 e2 e3 e4 e5 e6 e7;obtain ⟨g0,g1⟩:=x2.c2;simp at g0 g1;obtain ⟨h0,h1⟩:=x3.c2;simp at h0 h1;obtain ⟨i0,i1⟩:=x4.c2;simp at i0 i1
     clear x0 x2 x3 x4 hb1))
 all_goals (go_ret; exact ⟨by refine Za rfl ?_; rw [HR.out]; simp_all,S.out.bel⟩)
end Go.Proofs.YtjndhfcfcedheaaGreatDoor
