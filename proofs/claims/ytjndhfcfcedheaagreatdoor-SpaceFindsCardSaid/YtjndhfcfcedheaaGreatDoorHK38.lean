/- Texts that belong together: KTB. -/
import Derived.Test.YtjndhfcfcedheaaGreatDoorHK7
set_option linter.unusedVariables false
set_option linter.unusedSimpArgs false
set_option maxRecDepth 100000
set_option maxHeartbeats 16000000
namespace Go.Proofs.YtjndhfcfcedheaaGreatDoor
open Go.RowKit
section
section
variable {bc gk k1 o1 t1 m1 c1 gi pm pc k2 o2 t2 m2 c2 cb:Nat} {n1 v1 gc pv n2 v2:Int} {A1 pA A2 Ab:Option Addr} {w W0:World} {fT fI nT nI:Bool}
theorem ZlA (hW0:w.alloc (.cells #[.int .u8 gk,.int .u8 k1,.int .u8 o1,.int .u8 t1,.int .i32 n1,.int .i64 v1,.slice A1 m1 c1,.int .i64 gc,.int .u8 gi,.int .i64 pv,.slice pA pm pc,.int .u8 k2,.int .u8 o2,.int .u8 t2,.int .i32 n2,.int .i64 v2,.slice A2 m2 c2,.slice Ab 1 cb] 109)=W0) (HC:Hid (Calls Tryz.prog 90 #[.pointer (some ⟨bc,0,none⟩),.agg #[.int .u8 k1,.int .u8 o1,.int .u8 t1,.int .i32 n1,.int .i64 v1,.slice A1 m1 c1],.int .u8 3] W0 (Zu (.bool true) W0))) (HPl:Hid (∀ (i t:Bool) (w1:World),Calls Tryz.prog 105 #[.agg #[.int .u8 gk,.int .u8 k1,.int .u8 o1,.int .u8 t1,.int .i32 n1,.int .i64 v1,.slice A1 m1 c1,.int .i64 gc,.int .u8 gi,.int .i64 pv,.slice pA pm pc,.int .u8 k2,.int .u8 o2,.int .u8 t2,.int .i32 n2,.int .i64 v2,.slice A2 m2 c2,.slice Ab 1 cb],.bool i,.bool t] w1 (Zu (.bool ((i || nI) && (t || nT))) w1))) (h1:gk=2):Calls Tryz.prog 95 #[.pointer (some ⟨bc,0,none⟩),.agg #[.int .u8 gk,.int .u8 k1,.int .u8 o1,.int .u8 t1,.int .i32 n1,.int .i64 v1,.slice A1 m1 c1,.int .i64 gc,.int .u8 gi,.int .i64 pv,.slice pA pm pc,.int .u8 k2,.int .u8 o2,.int .u8 t2,.int .i32 n2,.int .i64 v2,.slice A2 m2 c2,.slice Ab 1 cb],.bool false] w (Zu (.bool (nI && nT)) w):=by
 have b0:Blk W0 w.heap.size 109 #[.int .u8 gk,.int .u8 k1,.int .u8 o1,.int .u8 t1,.int .i32 n1,.int .i64 v1,.slice A1 m1 c1,.int .i64 gc,.int .u8 gi,.int .i64 pv,.slice pA pm pc,.int .u8 k2,.int .u8 o2,.int .u8 t2,.int .i32 n2,.int .i64 v2,.slice A2 m2 c2,.slice Ab 1 cb]:=by rw [← hW0]; exact Blk.new w _ _
 have HK0:=Lh (show Below w.heap.size w W0 by rw [← hW0]; exact (Below.refl _ _).alloc (Nat.le_refl _) _);have HB0:=Lh b0;have e0:=b0.cell 0;have e1:=b0.cell 1;have e2:=b0.cell 2;have e3:=b0.cell 3;have e4:=b0.cell 4;have e5:=b0.cell 5;have e6:=b0.cell 6;have e7:=b0.cell 7;have e8:=b0.cell 8;have e9:=b0.cell 9;have e10:=b0.cell 10;have e11:=b0.cell 11;have e12:=b0.cell 12;have e13:=b0.cell 13;have e14:=b0.cell 14;have e15:=b0.cell 15;have e16:=b0.cell 16;have e17:=b0.cell 17;simp at e0 e1 e2 e3 e4 e5 e6 e7 e8 e9 e10 e11 e12 e13 e14 e15 e16 e17
 have y1:((gk:Int) == 1)=false:=by simp; omega
 have y2:((gk:Int) == 2)=true:=by simp; omega
 clear h1;clear b0;go_enter Tryz.func95,Tryz.ntmps95
 go_wp2_with (first
  | (go_at_call 90; (with_reducible refine HC.out.mono ?_); rintro e1 w1 ⟨rfl,hb1⟩
     have b1:=HB0.out.call hb1;have f0:=b1.cell 0;have f1:=b1.cell 1;have f2:=b1.cell 2;have f3:=b1.cell 3;have f4:=b1.cell 4;have f5:=b1.cell 5;have f6:=b1.cell 6;have f7:=b1.cell 7;have f8:=b1.cell 8;have f9:=b1.cell 9;have f10:=b1.cell 10;have f11:=b1.cell 11;have f12:=b1.cell 12;have f13:=b1.cell 13;have f14:=b1.cell 14;have f15:=b1.cell 15;have f16:=b1.cell 16;have f17:=b1.cell 17;simp at f0 f1 f2 f3 f4 f5 f6 f7 f8 f9 f10 f11 f12 f13 f14 f15 f16 f17;have HB1:=Lh hb1
     clear hb1 b1)
  | (go_at_call 105; (with_reducible refine (HPl.out _ _ _).mono ?_); rintro e2 w2 ⟨rfl,hb2⟩
     have HB2:=Lh (HB1.out.trans (hb2.mono HB1.out.size));have b2:=HB0.out.call HB2.out;have q0:=b2.cell 0;have q1:=b2.cell 1;have q2:=b2.cell 2;have q3:=b2.cell 3;have q4:=b2.cell 4;have q5:=b2.cell 5;have q6:=b2.cell 6;have q7:=b2.cell 7;have q8:=b2.cell 8;have q9:=b2.cell 9;have q10:=b2.cell 10;have q11:=b2.cell 11;have q12:=b2.cell 12;have q13:=b2.cell 13;have q14:=b2.cell 14;have q15:=b2.cell 15;have q16:=b2.cell 16;have q17:=b2.cell 17;simp at q0 q1 q2 q3 q4 q5 q6 q7 q8 q9 q10 q11 q12 q13 q14 q15 q16 q17
     clear hb2 b2))
 go_ret;exact ⟨by refine Za rfl ?_; simp,HK0.out.trans (HB2.out.mono HK0.out.size)⟩
theorem ZjZ (hW0:w.alloc (.cells #[.int .u8 gk,.int .u8 k1,.int .u8 o1,.int .u8 t1,.int .i32 n1,.int .i64 v1,.slice A1 m1 c1,.int .i64 gc,.int .u8 gi,.int .i64 pv,.slice pA pm pc,.int .u8 k2,.int .u8 o2,.int .u8 t2,.int .i32 n2,.int .i64 v2,.slice A2 m2 c2,.slice Ab 1 cb] 109)=W0) (HC:Hid (Calls Tryz.prog 90 #[.pointer (some ⟨bc,0,none⟩),.agg #[.int .u8 k1,.int .u8 o1,.int .u8 t1,.int .i32 n1,.int .i64 v1,.slice A1 m1 c1],.int .u8 3] W0 (Zu (.bool true) W0))) (HPl:Hid (∀ (i t:Bool) (w1:World),Calls Tryz.prog 105 #[.agg #[.int .u8 gk,.int .u8 k1,.int .u8 o1,.int .u8 t1,.int .i32 n1,.int .i64 v1,.slice A1 m1 c1,.int .i64 gc,.int .u8 gi,.int .i64 pv,.slice pA pm pc,.int .u8 k2,.int .u8 o2,.int .u8 t2,.int .i32 n2,.int .i64 v2,.slice A2 m2 c2,.slice Ab 1 cb],.bool i,.bool t] w1 (Zu (.bool ((i || nI) && (t || false))) w1))) (h1:gk=3):Calls Tryz.prog 95 #[.pointer (some ⟨bc,0,none⟩),.agg #[.int .u8 gk,.int .u8 k1,.int .u8 o1,.int .u8 t1,.int .i32 n1,.int .i64 v1,.slice A1 m1 c1,.int .i64 gc,.int .u8 gi,.int .i64 pv,.slice pA pm pc,.int .u8 k2,.int .u8 o2,.int .u8 t2,.int .i32 n2,.int .i64 v2,.slice A2 m2 c2,.slice Ab 1 cb],.bool false] w (Zu (.bool (false)) w):=by
 have b0:Blk W0 w.heap.size 109 #[.int .u8 gk,.int .u8 k1,.int .u8 o1,.int .u8 t1,.int .i32 n1,.int .i64 v1,.slice A1 m1 c1,.int .i64 gc,.int .u8 gi,.int .i64 pv,.slice pA pm pc,.int .u8 k2,.int .u8 o2,.int .u8 t2,.int .i32 n2,.int .i64 v2,.slice A2 m2 c2,.slice Ab 1 cb]:=by rw [← hW0]; exact Blk.new w _ _
 have HK0:=Lh (show Below w.heap.size w W0 by rw [← hW0]; exact (Below.refl _ _).alloc (Nat.le_refl _) _);have HB0:=Lh b0;have e0:=b0.cell 0;have e1:=b0.cell 1;have e2:=b0.cell 2;have e3:=b0.cell 3;have e4:=b0.cell 4;have e5:=b0.cell 5;have e6:=b0.cell 6;have e7:=b0.cell 7;have e8:=b0.cell 8;have e9:=b0.cell 9;have e10:=b0.cell 10;have e11:=b0.cell 11;have e12:=b0.cell 12;have e13:=b0.cell 13;have e14:=b0.cell 14;have e15:=b0.cell 15;have e16:=b0.cell 16;have e17:=b0.cell 17;simp at e0 e1 e2 e3 e4 e5 e6 e7 e8 e9 e10 e11 e12 e13 e14 e15 e16 e17
 have y1:((gk:Int) == 1)=false:=by simp; omega
 have y2:((gk:Int) == 2)=false:=by simp; omega
 have y3:((gk:Int) == 3)=true:=by simp; omega
 clear h1;clear b0;go_enter Tryz.func95,Tryz.ntmps95
 go_wp2_with (first
  | (go_at_call 90; (with_reducible refine HC.out.mono ?_); rintro e1 w1 ⟨rfl,hb1⟩
     have b1:=HB0.out.call hb1;have f0:=b1.cell 0;have f1:=b1.cell 1;have f2:=b1.cell 2;have f3:=b1.cell 3;have f4:=b1.cell 4;have f5:=b1.cell 5;have f6:=b1.cell 6;have f7:=b1.cell 7;have f8:=b1.cell 8;have f9:=b1.cell 9;have f10:=b1.cell 10;have f11:=b1.cell 11;have f12:=b1.cell 12;have f13:=b1.cell 13;have f14:=b1.cell 14;have f15:=b1.cell 15;have f16:=b1.cell 16;have f17:=b1.cell 17;simp at f0 f1 f2 f3 f4 f5 f6 f7 f8 f9 f10 f11 f12 f13 f14 f15 f16 f17;have HB1:=Lh hb1
     clear hb1 b1)
  | (go_at_call 105; (with_reducible refine (HPl.out _ _ _).mono ?_); rintro e2 w2 ⟨rfl,hb2⟩
     have HB2:=Lh (HB1.out.trans (hb2.mono HB1.out.size));have b2:=HB0.out.call HB2.out;have q0:=b2.cell 0;have q1:=b2.cell 1;have q2:=b2.cell 2;have q3:=b2.cell 3;have q4:=b2.cell 4;have q5:=b2.cell 5;have q6:=b2.cell 6;have q7:=b2.cell 7;have q8:=b2.cell 8;have q9:=b2.cell 9;have q10:=b2.cell 10;have q11:=b2.cell 11;have q12:=b2.cell 12;have q13:=b2.cell 13;have q14:=b2.cell 14;have q15:=b2.cell 15;have q16:=b2.cell 16;have q17:=b2.cell 17;simp at q0 q1 q2 q3 q4 q5 q6 q7 q8 q9 q10 q11 q12 q13 q14 q15 q16 q17
     clear hb2 b2))
 go_ret;exact ⟨by refine Za rfl ?_; simp,HK0.out.trans (HB2.out.mono HK0.out.size)⟩
theorem Zlz (hW0:w.alloc (.cells #[.int .u8 gk,.int .u8 k1,.int .u8 o1,.int .u8 t1,.int .i32 n1,.int .i64 v1,.slice A1 m1 c1,.int .i64 gc,.int .u8 gi,.int .i64 pv,.slice pA pm pc,.int .u8 k2,.int .u8 o2,.int .u8 t2,.int .i32 n2,.int .i64 v2,.slice A2 m2 c2,.slice Ab 1 cb] 109)=W0) (HC:Hid (Calls Tryz.prog 90 #[.pointer (some ⟨bc,0,none⟩),.agg #[.int .u8 k1,.int .u8 o1,.int .u8 t1,.int .i32 n1,.int .i64 v1,.slice A1 m1 c1],.int .u8 3] W0 (Zu (.bool true) W0))) (HPl:Hid (∀ (i t:Bool) (w1:World),Calls Tryz.prog 105 #[.agg #[.int .u8 gk,.int .u8 k1,.int .u8 o1,.int .u8 t1,.int .i32 n1,.int .i64 v1,.slice A1 m1 c1,.int .i64 gc,.int .u8 gi,.int .i64 pv,.slice pA pm pc,.int .u8 k2,.int .u8 o2,.int .u8 t2,.int .i32 n2,.int .i64 v2,.slice A2 m2 c2,.slice Ab 1 cb],.bool i,.bool t] w1 (Zu (.bool ((i || nI) && (t || true))) w1))) (HI:Hid (∀ w1:World,Below W0.heap.size W0 w1→Calls Tryz.prog 91 #[.pointer (some ⟨bc,0,none⟩),.int .i64 gc,.int .u8 gi,.agg #[.int .i64 pv,.slice pA pm pc]] w1 (Zu (.bool fI) w1))) (h1:gk=3):Calls Tryz.prog 95 #[.pointer (some ⟨bc,0,none⟩),.agg #[.int .u8 gk,.int .u8 k1,.int .u8 o1,.int .u8 t1,.int .i32 n1,.int .i64 v1,.slice A1 m1 c1,.int .i64 gc,.int .u8 gi,.int .i64 pv,.slice pA pm pc,.int .u8 k2,.int .u8 o2,.int .u8 t2,.int .i32 n2,.int .i64 v2,.slice A2 m2 c2,.slice Ab 1 cb],.bool false] w (Zu (.bool (fI)) w):=by
 have b0:Blk W0 w.heap.size 109 #[.int .u8 gk,.int .u8 k1,.int .u8 o1,.int .u8 t1,.int .i32 n1,.int .i64 v1,.slice A1 m1 c1,.int .i64 gc,.int .u8 gi,.int .i64 pv,.slice pA pm pc,.int .u8 k2,.int .u8 o2,.int .u8 t2,.int .i32 n2,.int .i64 v2,.slice A2 m2 c2,.slice Ab 1 cb]:=by rw [← hW0]; exact Blk.new w _ _
 have HK0:=Lh (show Below w.heap.size w W0 by rw [← hW0]; exact (Below.refl _ _).alloc (Nat.le_refl _) _);have HB0:=Lh b0;have e0:=b0.cell 0;have e1:=b0.cell 1;have e2:=b0.cell 2;have e3:=b0.cell 3;have e4:=b0.cell 4;have e5:=b0.cell 5;have e6:=b0.cell 6;have e7:=b0.cell 7;have e8:=b0.cell 8;have e9:=b0.cell 9;have e10:=b0.cell 10;have e11:=b0.cell 11;have e12:=b0.cell 12;have e13:=b0.cell 13;have e14:=b0.cell 14;have e15:=b0.cell 15;have e16:=b0.cell 16;have e17:=b0.cell 17;simp at e0 e1 e2 e3 e4 e5 e6 e7 e8 e9 e10 e11 e12 e13 e14 e15 e16 e17
 have y1:((gk:Int) == 1)=false:=by simp; omega
 have y2:((gk:Int) == 2)=false:=by simp; omega
 have y3:((gk:Int) == 3)=true:=by simp; omega
 clear h1;clear b0;go_enter Tryz.func95,Tryz.ntmps95
 go_wp2_with (first
  | (go_at_call 90; (with_reducible refine HC.out.mono ?_); rintro e1 w1 ⟨rfl,hb1⟩
     have b1:=HB0.out.call hb1;have f0:=b1.cell 0;have f1:=b1.cell 1;have f2:=b1.cell 2;have f3:=b1.cell 3;have f4:=b1.cell 4;have f5:=b1.cell 5;have f6:=b1.cell 6;have f7:=b1.cell 7;have f8:=b1.cell 8;have f9:=b1.cell 9;have f10:=b1.cell 10;have f11:=b1.cell 11;have f12:=b1.cell 12;have f13:=b1.cell 13;have f14:=b1.cell 14;have f15:=b1.cell 15;have f16:=b1.cell 16;have f17:=b1.cell 17;simp at f0 f1 f2 f3 f4 f5 f6 f7 f8 f9 f10 f11 f12 f13 f14 f15 f16 f17;have HB1:=Lh hb1
     clear hb1 b1)
  | (go_at_call 105; (with_reducible refine (HPl.out _ _ _).mono ?_); rintro e2 w2 ⟨rfl,hb2⟩
     have HB2:=Lh (HB1.out.trans (hb2.mono HB1.out.size));have b2:=HB0.out.call HB2.out;have q0:=b2.cell 0;have q1:=b2.cell 1;have q2:=b2.cell 2;have q3:=b2.cell 3;have q4:=b2.cell 4;have q5:=b2.cell 5;have q6:=b2.cell 6;have q7:=b2.cell 7;have q8:=b2.cell 8;have q9:=b2.cell 9;have q10:=b2.cell 10;have q11:=b2.cell 11;have q12:=b2.cell 12;have q13:=b2.cell 13;have q14:=b2.cell 14;have q15:=b2.cell 15;have q16:=b2.cell 16;have q17:=b2.cell 17;simp at q0 q1 q2 q3 q4 q5 q6 q7 q8 q9 q10 q11 q12 q13 q14 q15 q16 q17
     clear hb2 b2)
  | (go_at_call 91; (with_reducible refine (HI.out _ HB2.out).mono ?_); rintro e3 w3 ⟨rfl,hb3⟩
     have HB3:=Lh (HB2.out.trans (hb3.mono HB2.out.size))
     clear hb3))
 go_ret;exact ⟨by refine Za rfl ?_; simp,HK0.out.trans (HB3.out.mono HK0.out.size)⟩
end
end
end Go.Proofs.YtjndhfcfcedheaaGreatDoor
