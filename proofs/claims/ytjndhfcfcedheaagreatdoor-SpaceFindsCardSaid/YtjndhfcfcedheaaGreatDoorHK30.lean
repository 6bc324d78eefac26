/- Texts that belong together: KRK KRL. -/
import Derived.Test.YtjndhfcfcedheaaGreatDoorHK29
import Derived.Test.YtjndhfcfcedheaaGreatDoorHK27
import Derived.Test.YtjndhfcfcedheaaGreatDoorHK4
set_option linter.unusedVariables false
set_option linter.unusedSimpArgs false
set_option maxRecDepth 100000
set_option maxHeartbeats 16000000
namespace Go.Proofs.YtjndhfcfcedheaaGreatDoor
open Go.RowKit
structure Zpk (w W:World) (g:Nat) (ps fs:Array Value):Prop where
 bel:Below w.heap.size w W
 pb:Blk W w.heap.size 31 ps
 fb:Blk W g 132 fs
theorem Zpk.call {w W W1:World} {g:Nat} {ps fs:Array Value} (h:Zpk w W g ps fs) (hb:Below W.heap.size W W1):Zpk w W1 g ps fs:=⟨h.bel.trans (hb.mono h.bel.size),h.pb.call hb,h.fb.call hb⟩
theorem ZkP (kd:Nat) (c v:Int) (item:Nat) (A1 A2 A3 A4:Option Addr) (m1 m2 m3 m4 k1 k2 k3 k4:Nat) (a0 a1 b0 b1 c0 c1 d0 d1:Int) (w:World)
  (HF:Hid (∀ w1:World,Calls Tryz.prog 79 #[.int .u8 kd] w1 (Zu (.tuple #[.agg #[.bool false,.bool false,.bool false,.int .i64 a0,.int .i64 a1,.int .i64 b0,.int .i64 b1,.int .i64 c0,.int .i64 c1,.int .i64 d0,.int .i64 d1],.bool true]) w1))) :
  Calls Tryz.prog 63 #[.agg #[.int .u8 kd,.int .i64 c,.int .i64 v,.int .u8 item,.slice A1 m1 k1,.slice A2 m2 k2,.slice A3 m3 k3,.slice A4 m4 k4]] w (Zu (.bool (Zac c v item m1 m2 m3 m4 false false a0 a1 b0 b1 c0 c1 d0 d1)) w):=by
 have HR:=Lh (show Zac c v item m1 m2 m3 m4 false false a0 a1 b0 b1 c0 c1 d0 d1=(decide (c=0∧item=0) && decide (v=0) && inI m1 a0 a1 && inI m2 b0 b1 && inI m3 c0 c1 && inI m4 d0 d1) by simp [Zac]);generalize Zac c v item m1 m2 m3 m4 false false a0 a1 b0 b1 c0 c1 d0 d1=R at *;have HI:=Lh (fun n a b w1=>Zie n a b w1)
 obtain ⟨W0,hW0⟩:∃ W,w.alloc (.cells #[.int .u8 kd,.int .i64 c,.int .i64 v,.int .u8 item,.slice A1 m1 k1,.slice A2 m2 k2,.slice A3 m3 k3,.slice A4 m4 k4] 31)=W:=⟨_,rfl⟩
 have x0:Blk W0 w.heap.size 31 #[.int .u8 kd,.int .i64 c,.int .i64 v,.int .u8 item,.slice A1 m1 k1,.slice A2 m2 k2,.slice A3 m3 k3,.slice A4 m4 k4]:=by rw [← hW0]; exact Blk.new w _ _
 have HX0:=Lh x0;have HK0:=Lh (show Below w.heap.size w W0 by rw [← hW0]; exact (Below.refl _ _).alloc (Nat.le_refl _) _);obtain ⟨e0,e1,e2,e3,e4,e5,e6,e7⟩:=x0.c8;simp at e0 e1 e2 e3 e4 e5 e6 e7;clear x0;go_enter Tryz.func63,Tryz.ntmps63
 go_upto_region 2 with (first
  | (go_at_call 79; (with_reducible refine (HF.out _).mono ?_); rintro e1 w1 ⟨rfl,hb1⟩
     have HS:Hid (Zpk w (w1.alloc (.cells #[.bool false,.bool false,.bool false,.int .i64 a0,.int .i64 a1,.int .i64 b0,.int .i64 b1,.int .i64 c0,.int .i64 c1,.int .i64 d0,.int .i64 d1] 132)) w1.heap.size #[.int .u8 kd,.int .i64 c,.int .i64 v,.int .u8 item,.slice A1 m1 k1,.slice A2 m2 k2,.slice A3 m3 k3,.slice A4 m4 k4] #[.bool false,.bool false,.bool false,.int .i64 a0,.int .i64 a1,.int .i64 b0,.int .i64 b1,.int .i64 c0,.int .i64 c1,.int .i64 d0,.int .i64 d1]):=Lh ⟨(HK0.out.trans (hb1.mono HK0.out.size)).alloc (Nat.le_trans HK0.out.size hb1.size) _,(HX0.out.call hb1).alloc _,Blk.new w1 _ _⟩
     clear hb1))
 generalize hW1:w1.alloc (.cells #[.bool false,.bool false,.bool false,.int .i64 a0,.int .i64 a1,.int .i64 b0,.int .i64 b1,.int .i64 c0,.int .i64 c1,.int .i64 d0,.int .i64 d1] 132)=W1 at *;generalize w1.heap.size=g at *;have S:=HS;clear HS;have x1:=S.out.pb;have x2:=S.out.fb;obtain ⟨f0,f1,f2,f3,f4,f5,f6,f7⟩:=x1.c8;simp at f0 f1 f2 f3 f4 f5 f6 f7;obtain ⟨q0,q1,q2,q3,q4,q5,q6,q7,q8,q9,q10⟩:=x2.c11;simp at q0 q1 q2 q3 q4 q5 q6 q7 q8 q9 q10;clear x1 x2 hW1
 go_wp2_with (first
  | (go_at_call 80; (with_reducible refine (HI.out _ _ _ _).mono ?_); rintro e1 w2 ⟨rfl,hb1⟩
     replace S:=Lh (S.out.call hb1);have x1:=S.out.pb;have x2:=S.out.fb;obtain ⟨f0,f1,f2,f3,f4,f5,f6,f7⟩:=x1.c8;simp at f0 f1 f2 f3 f4 f5 f6 f7;obtain ⟨q0,q1,q2,q3,q4,q5,q6,q7,q8,q9,q10⟩:=x2.c11;simp at q0 q1 q2 q3 q4 q5 q6 q7 q8 q9 q10
     clear x1 x2 hb1))
 all_goals (go_ret; exact ⟨by refine Za rfl ?_; rw [HR.out]; simp_all,S.out.bel⟩)
theorem ZkO (kd:Nat) (c v:Int) (item:Nat) (A1 A2 A3 A4:Option Addr) (m1 m2 m3 m4 k1 k2 k3 k4:Nat) (a0 a1 b0 b1 c0 c1 d0 d1:Int) (w:World)
  (HF:Hid (∀ w1:World,Calls Tryz.prog 79 #[.int .u8 kd] w1 (Zu (.tuple #[.agg #[.bool false,.bool true,.bool false,.int .i64 a0,.int .i64 a1,.int .i64 b0,.int .i64 b1,.int .i64 c0,.int .i64 c1,.int .i64 d0,.int .i64 d1],.bool true]) w1))) :
  Calls Tryz.prog 63 #[.agg #[.int .u8 kd,.int .i64 c,.int .i64 v,.int .u8 item,.slice A1 m1 k1,.slice A2 m2 k2,.slice A3 m3 k3,.slice A4 m4 k4]] w (Zu (.bool (Zac c v item m1 m2 m3 m4 false true a0 a1 b0 b1 c0 c1 d0 d1)) w):=by
 have HR:=Lh (show Zac c v item m1 m2 m3 m4 false true a0 a1 b0 b1 c0 c1 d0 d1=(decide (c=0∧item=0) && inI m1 a0 a1 && inI m2 b0 b1 && inI m3 c0 c1 && inI m4 d0 d1) by simp [Zac]);generalize Zac c v item m1 m2 m3 m4 false true a0 a1 b0 b1 c0 c1 d0 d1=R at *;have HI:=Lh (fun n a b w1=>Zie n a b w1)
 obtain ⟨W0,hW0⟩:∃ W,w.alloc (.cells #[.int .u8 kd,.int .i64 c,.int .i64 v,.int .u8 item,.slice A1 m1 k1,.slice A2 m2 k2,.slice A3 m3 k3,.slice A4 m4 k4] 31)=W:=⟨_,rfl⟩
 have x0:Blk W0 w.heap.size 31 #[.int .u8 kd,.int .i64 c,.int .i64 v,.int .u8 item,.slice A1 m1 k1,.slice A2 m2 k2,.slice A3 m3 k3,.slice A4 m4 k4]:=by rw [← hW0]; exact Blk.new w _ _
 have HX0:=Lh x0;have HK0:=Lh (show Below w.heap.size w W0 by rw [← hW0]; exact (Below.refl _ _).alloc (Nat.le_refl _) _);obtain ⟨e0,e1,e2,e3,e4,e5,e6,e7⟩:=x0.c8;simp at e0 e1 e2 e3 e4 e5 e6 e7;clear x0;go_enter Tryz.func63,Tryz.ntmps63
 go_upto_region 2 with (first
  | (go_at_call 79; (with_reducible refine (HF.out _).mono ?_); rintro e1 w1 ⟨rfl,hb1⟩
     have HS:Hid (Zpk w (w1.alloc (.cells #[.bool false,.bool true,.bool false,.int .i64 a0,.int .i64 a1,.int .i64 b0,.int .i64 b1,.int .i64 c0,.int .i64 c1,.int .i64 d0,.int .i64 d1] 132)) w1.heap.size #[.int .u8 kd,.int .i64 c,.int .i64 v,.int .u8 item,.slice A1 m1 k1,.slice A2 m2 k2,.slice A3 m3 k3,.slice A4 m4 k4] #[.bool false,.bool true,.bool false,.int .i64 a0,.int .i64 a1,.int .i64 b0,.int .i64 b1,.int .i64 c0,.int .i64 c1,.int .i64 d0,.int .i64 d1]):=Lh ⟨(HK0.out.trans (hb1.mono HK0.out.size)).alloc (Nat.le_trans HK0.out.size hb1.size) _,(HX0.out.call hb1).alloc _,Blk.new w1 _ _⟩
     clear hb1))
 generalize hW1:w1.alloc (.cells #[.bool false,.bool true,.bool false,.int .i64 a0,.int .i64 a1,.int .i64 b0,.int .i64 b1,.int .i64 c0,.int .i64 c1,.int .i64 d0,.int .i64 d1] 132)=W1 at *;generalize w1.heap.size=g at *;have S:=HS;clear HS;have x1:=S.out.pb;have x2:=S.out.fb;obtain ⟨f0,f1,f2,f3,f4,f5,f6,f7⟩:=x1.c8;simp at f0 f1 f2 f3 f4 f5 f6 f7;obtain ⟨q0,q1,q2,q3,q4,q5,q6,q7,q8,q9,q10⟩:=x2.c11;simp at q0 q1 q2 q3 q4 q5 q6 q7 q8 q9 q10;clear x1 x2 hW1
 go_wp2_with (first
  | (go_at_call 80; (with_reducible refine (HI.out _ _ _ _).mono ?_); rintro e1 w2 ⟨rfl,hb1⟩
     replace S:=Lh (S.out.call hb1);have x1:=S.out.pb;have x2:=S.out.fb;obtain ⟨f0,f1,f2,f3,f4,f5,f6,f7⟩:=x1.c8;simp at f0 f1 f2 f3 f4 f5 f6 f7;obtain ⟨q0,q1,q2,q3,q4,q5,q6,q7,q8,q9,q10⟩:=x2.c11;simp at q0 q1 q2 q3 q4 q5 q6 q7 q8 q9 q10
     clear x1 x2 hb1))
 all_goals (go_ret; exact ⟨by refine Za rfl ?_; rw [HR.out]; simp_all,S.out.bel⟩)
theorem ZkM (kd:Nat) (c v:Int) (item:Nat) (A1 A2 A3 A4:Option Addr) (m1 m2 m3 m4 k1 k2 k3 k4:Nat) (a0 a1 b0 b1 c0 c1 d0 d1:Int) (w:World)
  (HF:Hid (∀ w1:World,Calls Tryz.prog 79 #[.int .u8 kd] w1 (Zu (.tuple #[.agg #[.bool true,.bool false,.bool true,.int .i64 a0,.int .i64 a1,.int .i64 b0,.int .i64 b1,.int .i64 c0,.int .i64 c1,.int .i64 d0,.int .i64 d1],.bool true]) w1))) :
  Calls Tryz.prog 63 #[.agg #[.int .u8 kd,.int .i64 c,.int .i64 v,.int .u8 item,.slice A1 m1 k1,.slice A2 m2 k2,.slice A3 m3 k3,.slice A4 m4 k4]] w (Zu (.bool (Zac c v item m1 m2 m3 m4 true false a0 a1 b0 b1 c0 c1 d0 d1)) w):=by
 have HR:=Lh (show Zac c v item m1 m2 m3 m4 true false a0 a1 b0 b1 c0 c1 d0 d1=(decide (v=0) && inI m1 a0 a1 && inI m2 b0 b1 && inI m3 c0 c1 && inI m4 d0 d1) by simp [Zac]);generalize Zac c v item m1 m2 m3 m4 true false a0 a1 b0 b1 c0 c1 d0 d1=R at *;have HI:=Lh (fun n a b w1=>Zie n a b w1)
 obtain ⟨W0,hW0⟩:∃ W,w.alloc (.cells #[.int .u8 kd,.int .i64 c,.int .i64 v,.int .u8 item,.slice A1 m1 k1,.slice A2 m2 k2,.slice A3 m3 k3,.slice A4 m4 k4] 31)=W:=⟨_,rfl⟩
 have x0:Blk W0 w.heap.size 31 #[.int .u8 kd,.int .i64 c,.int .i64 v,.int .u8 item,.slice A1 m1 k1,.slice A2 m2 k2,.slice A3 m3 k3,.slice A4 m4 k4]:=by rw [← hW0]; exact Blk.new w _ _
 have HX0:=Lh x0;have HK0:=Lh (show Below w.heap.size w W0 by rw [← hW0]; exact (Below.refl _ _).alloc (Nat.le_refl _) _);obtain ⟨e0,e1,e2,e3,e4,e5,e6,e7⟩:=x0.c8;simp at e0 e1 e2 e3 e4 e5 e6 e7;clear x0;go_enter Tryz.func63,Tryz.ntmps63
 go_upto_region 2 with (first
  | (go_at_call 79; (with_reducible refine (HF.out _).mono ?_); rintro e1 w1 ⟨rfl,hb1⟩
     have HS:Hid (Zpk w (w1.alloc (.cells #[.bool true,.bool false,.bool true,.int .i64 a0,.int .i64 a1,.int .i64 b0,.int .i64 b1,.int .i64 c0,.int .i64 c1,.int .i64 d0,.int .i64 d1] 132)) w1.heap.size #[.int .u8 kd,.int .i64 c,.int .i64 v,.int .u8 item,.slice A1 m1 k1,.slice A2 m2 k2,.slice A3 m3 k3,.slice A4 m4 k4] #[.bool true,.bool false,.bool true,.int .i64 a0,.int .i64 a1,.int .i64 b0,.int .i64 b1,.int .i64 c0,.int .i64 c1,.int .i64 d0,.int .i64 d1]):=Lh ⟨(HK0.out.trans (hb1.mono HK0.out.size)).alloc (Nat.le_trans HK0.out.size hb1.size) _,(HX0.out.call hb1).alloc _,Blk.new w1 _ _⟩
     clear hb1))
 generalize hW1:w1.alloc (.cells #[.bool true,.bool false,.bool true,.int .i64 a0,.int .i64 a1,.int .i64 b0,.int .i64 b1,.int .i64 c0,.int .i64 c1,.int .i64 d0,.int .i64 d1] 132)=W1 at *;generalize w1.heap.size=g at *;have S:=HS;clear HS;have x1:=S.out.pb;have x2:=S.out.fb;obtain ⟨f0,f1,f2,f3,f4,f5,f6,f7⟩:=x1.c8;simp at f0 f1 f2 f3 f4 f5 f6 f7;obtain ⟨q0,q1,q2,q3,q4,q5,q6,q7,q8,q9,q10⟩:=x2.c11;simp at q0 q1 q2 q3 q4 q5 q6 q7 q8 q9 q10;clear x1 x2 hW1
 go_wp2_with (first
  | (go_at_call 80; (with_reducible refine (HI.out _ _ _ _).mono ?_); rintro e1 w2 ⟨rfl,hb1⟩
     replace S:=Lh (S.out.call hb1);have x1:=S.out.pb;have x2:=S.out.fb;obtain ⟨f0,f1,f2,f3,f4,f5,f6,f7⟩:=x1.c8;simp at f0 f1 f2 f3 f4 f5 f6 f7;obtain ⟨q0,q1,q2,q3,q4,q5,q6,q7,q8,q9,q10⟩:=x2.c11;simp at q0 q1 q2 q3 q4 q5 q6 q7 q8 q9 q10
     clear x1 x2 hb1))
 all_goals (go_ret; exact ⟨by refine Za rfl ?_; rw [HR.out]; simp_all,S.out.bel⟩)
theorem ZkN (kd:Nat) (hk:ZfR kd=none) (c v:Int) (item:Nat) (A1 A2 A3 A4:Option Addr) (m1 m2 m3 m4 k1 k2 k3 k4:Nat) (w:World) :
  Calls Tryz.prog 63 #[.agg #[.int .u8 kd,.int .i64 c,.int .i64 v,.int .u8 item,.slice A1 m1 k1,.slice A2 m2 k2,.slice A3 m3 k3,.slice A4 m4 k4]] w (Zu (.bool false) w):=by
 have HF:=Lh (fun w1=>ZkQ kd hk w1)
 obtain ⟨W0,hW0⟩:∃ W,w.alloc (.cells #[.int .u8 kd,.int .i64 c,.int .i64 v,.int .u8 item,.slice A1 m1 k1,.slice A2 m2 k2,.slice A3 m3 k3,.slice A4 m4 k4] 31)=W:=⟨_,rfl⟩
 have x0:Blk W0 w.heap.size 31 #[.int .u8 kd,.int .i64 c,.int .i64 v,.int .u8 item,.slice A1 m1 k1,.slice A2 m2 k2,.slice A3 m3 k3,.slice A4 m4 k4]:=by rw [← hW0]; exact Blk.new w _ _
 have HK0:=Lh (show Below w.heap.size w W0 by rw [← hW0]; exact (Below.refl _ _).alloc (Nat.le_refl _) _);obtain ⟨e0,e1,e2,e3,e4,e5,e6,e7⟩:=x0.c8;simp at e0 e1 e2 e3 e4 e5 e6 e7;clear x0 hk;go_enter Tryz.func63,Tryz.ntmps63
 go_wp2_with (go_at_call 79; (with_reducible refine (HF.out _).mono ?_); rintro e1 w1 ⟨rfl,hb1⟩)
 go_ret;exact ⟨rfl,(HK0.out.trans (hb1.mono HK0.out.size)).alloc (Nat.le_trans HK0.out.size hb1.size) _⟩
def ZbC (p:KP):Bool:=match ZfR p.kind with
 | none=>false
 | some f=>Zac p.c p.v p.item p.tos.length p.e.length p.g.length p.l.length f.c f.v f.a0 f.a1 f.b0 f.b1 f.c0 f.c1 f.d0 f.d1
theorem ZoY {k:Nat} {f:Zkh} (h:ZfR k=some f):f.i=f.c∧¬ (f.c=true∧f.v=true):=by
 unfold ZfR at h
 split at h
 all_goals first
  | (cases h; done)
  | (injection h with h; subst h; simp)
theorem ZeV (p:KP) (w:World):Calls Tryz.prog 63 #[.agg p.cells] w (Zu (.bool (ZbC p)) w):=by
 unfold ZbC
 cases hf:ZfR p.kind with
 | none=>exact ZkN p.kind hf p.c p.v p.item p.At p.Ae p.Ag p.Al _ _ _ _ _ _ _ _ w
 | some f =>
   obtain ⟨e1,e2⟩:=ZoY hf;have HF:=Lh (fun w1=>ZjD p.kind f hf w1);obtain ⟨fc,fv,fi,a0,a1,b0,b1,c0,c1,d0,d1⟩:=f
   simp only at e1 e2
   subst e1
   cases fi <;> cases fv
   ·exact ZkP _ _ _ _ _ _ _ _ _ _ _ _ _ _ _ _ _ _ _ _ _ _ _ _ _ HF
   ·exact ZkO _ _ _ _ _ _ _ _ _ _ _ _ _ _ _ _ _ _ _ _ _ _ _ _ _ HF
   ·exact ZkM _ _ _ _ _ _ _ _ _ _ _ _ _ _ _ _ _ _ _ _ _ _ _ _ _ HF
   ·simp at e2
structure Zn5 (w W:World) (ks ps:Array Value):Prop where
 bel:Below w.heap.size w W
 kb:Blk W w.heap.size 34 ks
 pb:Blk W (w.heap.size+1) 31 ps
theorem Zn5.call {w W W1:World} {ks ps:Array Value} (h:Zn5 w W ks ps) (hb:Below W.heap.size W W1):Zn5 w W1 ks ps:=⟨h.bel.trans (hb.mono h.bel.size),h.kb.call hb,h.pb.call hb⟩
theorem kpl_row {w:World} {B:Nat} {A:Option Addr} {l:List KPl} (h:ZcN w B A l) {k:Nat} (hk:k < l.length):∃ b off x,A=some ⟨b,off,none⟩∧b < B∧l[k]? = some x∧x.In w B ∧
  w.cell? ⟨b,off+k * 2,none⟩=some (.int .i64 x.v)∧w.cell? ⟨b,off+k * 2+1,none⟩=some (.slice x.A x.l.length x.c):=Zdc h rfl hk
theorem Zmz (k:KK) (p:KP) (hkd:p.kind=5) (hlen:p.tos.length=1) (B:Nat) (w:World) (hk:k.In w B) (ok:KOk k) (hi:p.One w B) (hB:B≤w.heap.size) :
  Calls Tryz.prog 64 #[.agg k.flat,.agg p.cells] w (Zu (.bool (ZdJ k.vars k.chans.length p.c p.item p.tos)) w):=by
 obtain ⟨W0,hW0⟩:∃ W,(w.alloc (.cells k.flat 34)).alloc (.cells p.cells 31)=W:=⟨_,rfl⟩
 obtain ⟨l1,l2,l3⟩:=Zf8 w k.flat p.cells 34 31;rw [hW0] at l1 l2 l3;have K:=Lh l1
 have HW:Hid (∀ w1:World,Below w.heap.size w w1→k.In w1 B∧p.One w1 B∧B≤w1.heap.size):=Lh fun w1 hb=>⟨hk.below (hb.mono hB),hi.below (hb.mono hB),Nat.le_trans hB hb.size⟩
 have hkw:=l2.lt;have hpw:=l3.lt
 have y3:((p.kind:Int) == 3)=false:=by simp [hkd]
 have y4:((p.kind:Int) == 4)=false:=by simp [hkd]
 have y5:((p.kind:Int) == 5)=true:=by simp [hkd]
 obtain ⟨x,hx⟩:=ZaR hlen;have hp0:=(HW.out W0 l1).2.1.2.1;rw [hx] at hp0;obtain ⟨b,off,y,hA,hb,hy,hin,c0,c1⟩:=kpl_row hp0 (k:=0) (by simp)
 obtain rfl:x=y:=by simpa using hy
 rw [Nat.zero_mul,Nat.add_zero] at c0 c1;have hbw:b < W0.heap.size:=Nat.lt_of_lt_of_le hb (HW.out W0 l1).2.2;have HIN:Hid (∀ w1:World,Below W0.heap.size W0 w1→x.In w1 B):=Lh fun w1 h=>hin.below (h.mono (HW.out W0 l1).2.2);simp only [KK.flat,KP.cells] at l2 l3 hW0 ⊢;obtain ⟨q0,q1,q2,q3,q4,q5,q6,q7,q8,q9,q10⟩:=l2.c11;simp at q0 q1 q2 q3 q4 q5 q6 q7 q8 q9 q10;obtain ⟨e0,e1,e2,e3,e4,e5,e6,e7⟩:=l3.c8;simp at e0 e1 e2 e3 e4 e5 e6 e7;clear l1 l2 l3 hk hi hkd;rw [hlen] at hW0 e4 ⊢;rw [hA] at e4;clear hA hin hy hp0 hlen;go_enter Tryz.func64,Tryz.ntmps64
 go_upto_region 12 with fail
 obtain ⟨ι,F,i0',h0',hFb,hcl⟩:=ZC W0;have Fq0:=famc hFb q0 hkw;have Fq1:=famc hFb q1 hkw;have Fq2:=famc hFb q2 hkw;have Fq3:=famc hFb q3 hkw;have Fq4:=famc hFb q4 hkw;have Fq5:=famc hFb q5 hkw;have Fq6:=famc hFb q6 hkw;have Fq7:=famc hFb q7 hkw;have Fq8:=famc hFb q8 hkw;have Fq9:=famc hFb q9 hkw;have Fq10:=famc hFb q10 hkw;have Fe0:=famc hFb e0 hpw;have Fe1:=famc hFb e1 hpw;have Fe2:=famc hFb e2 hpw;have Fe3:=famc hFb e3 hpw;have Fe4:=famc hFb e4 hpw;have Fe5:=famc hFb e5 hpw;have Fe6:=famc hFb e6 hpw;have Fe7:=famc hFb e7 hpw;have Fc0:=famc hFb c0 hbw;have Fc1:=famc hFb c1 hbw;have HCF:=Lh (fun i=>ZnO k p.c p.item x B (F i) (HW.out (F i) (K.out.trans ((hFb i).mono K.out.size))).1 ok (HIN.out (F i) (hFb i)) (HW.out (F i) (K.out.trans ((hFb i).mono K.out.size))).2.2)
 haveI:Nonempty ι:=⟨i0'⟩
 refine Zb F i0' h0' (by kernel_rfl) (by kernel_rfl) ?_
 repeat (go_big_quiet_step (first
  | (go_at_call 83; refine (HCF.out _).mono ?_; rintro e w4 ⟨rfl,hb4⟩; exact ⟨rfl,hcl _ _ hb4⟩)))
 refine wpQuiet_nil ?_;intro i;have K5:=Lh (K.out.trans ((hFb i).mono K.out.size))
 go_wp2
 go_ret;exact ⟨by rw [show ZdJ k.vars k.chans.length p.c p.item p.tos=Zbg k.vars k.chans.length p.c p.item x by rw [hx]; rfl]; rfl,K5.out⟩
theorem Zmy (k:KK) (p:KP) (hkd:p.kind=6) (hlen:p.e.length=1) (B:Nat) (w:World) (hk:k.In w B) (ok:KOk k) (hi:p.One w B) (hB:B≤w.heap.size) :
  Calls Tryz.prog 64 #[.agg k.flat,.agg p.cells] w (Zu (.bool (ZS k.chans.length p.c p.item 0 && ZbJ k.vars p.e p.item)) w):=by
 obtain ⟨W0,hW0⟩:∃ W,(w.alloc (.cells k.flat 34)).alloc (.cells p.cells 31)=W:=⟨_,rfl⟩
 obtain ⟨l1,l2,l3⟩:=Zf8 w k.flat p.cells 34 31;rw [hW0] at l1 l2 l3;have K:=Lh l1
 have HW:Hid (∀ w1:World,Below w.heap.size w w1→k.In w1 B∧p.One w1 B∧B≤w1.heap.size):=Lh fun w1 hb=>⟨hk.below (hb.mono hB),hi.below (hb.mono hB),Nat.le_trans hB hb.size⟩
 have hkw:=l2.lt;have hpw:=l3.lt
 have y3:((p.kind:Int) == 3)=false:=by simp [hkd]
 have y4:((p.kind:Int) == 4)=false:=by simp [hkd]
 have y5:((p.kind:Int) == 5)=false:=by simp [hkd]
 have y6:((p.kind:Int) == 6)=true:=by simp [hkd]
 obtain ⟨x,hx⟩:=ZaR hlen;have hp0:=(HW.out W0 l1).2.1.2.2.1;rw [hx] at hp0;obtain ⟨b,off,y,hA,hb,hy,hin,c0,c1,c2,c3,c4,c5⟩:=Zba hp0 (k:=0) (by simp)
 obtain rfl:x=y:=by simpa using hy
 rw [Nat.zero_mul,Nat.add_zero] at c0 c1 c2 c3 c4 c5;have hbw:b < W0.heap.size:=Nat.lt_of_lt_of_le hb (HW.out W0 l1).2.2;have HIN:Hid (∀ w1:World,Below W0.heap.size W0 w1→x.In w1 B):=Lh fun w1 h=>hin.below (h.mono (HW.out W0 l1).2.2);simp only [KK.flat,KP.cells] at l2 l3 hW0 ⊢;obtain ⟨q0,q1,q2,q3,q4,q5,q6,q7,q8,q9,q10⟩:=l2.c11;simp at q0 q1 q2 q3 q4 q5 q6 q7 q8 q9 q10;obtain ⟨e0,e1,e2,e3,e4,e5,e6,e7⟩:=l3.c8;simp at e0 e1 e2 e3 e4 e5 e6 e7;clear l1 l2 l3 hk hi hkd;rw [hlen] at hW0 e5 ⊢;rw [hA] at e5;clear hA hin hy hp0 hlen;go_enter Tryz.func64,Tryz.ntmps64
 go_upto_region 14 with fail
 obtain ⟨ι,F,i0',h0',hFb,hcl⟩:=ZC W0;have Fq0:=famc hFb q0 hkw;have Fq1:=famc hFb q1 hkw;have Fq2:=famc hFb q2 hkw;have Fq3:=famc hFb q3 hkw;have Fq4:=famc hFb q4 hkw;have Fq5:=famc hFb q5 hkw;have Fq6:=famc hFb q6 hkw;have Fq7:=famc hFb q7 hkw;have Fq8:=famc hFb q8 hkw;have Fq9:=famc hFb q9 hkw;have Fq10:=famc hFb q10 hkw;have Fe0:=famc hFb e0 hpw;have Fe1:=famc hFb e1 hpw;have Fe2:=famc hFb e2 hpw;have Fe3:=famc hFb e3 hpw;have Fe4:=famc hFb e4 hpw;have Fe5:=famc hFb e5 hpw;have Fe6:=famc hFb e6 hpw;have Fe7:=famc hFb e7 hpw;have Fc0:=famc hFb c0 hbw;have Fc1:=famc hFb c1 hbw;have Fc2:=famc hFb c2 hbw;have Fc3:=famc hFb c3 hbw;have Fc4:=famc hFb c4 hbw;have Fc5:=famc hFb c5 hbw;have HCF:=Lh (fun i=>Zor k p.c p.item x B (F i) (HW.out (F i) (K.out.trans ((hFb i).mono K.out.size))).1 ok (HIN.out (F i) (hFb i)) (HW.out (F i) (K.out.trans ((hFb i).mono K.out.size))).2.2)
 haveI:Nonempty ι:=⟨i0'⟩
 refine Zb F i0' h0' (by kernel_rfl) (by kernel_rfl) ?_
 repeat (go_big_quiet_step (first
  | (go_at_call 84; refine (HCF.out _).mono ?_; rintro e w4 ⟨rfl,hb4⟩; exact ⟨rfl,hcl _ _ hb4⟩)))
 refine wpQuiet_nil ?_;intro i;have K5:=Lh (K.out.trans ((hFb i).mono K.out.size))
 go_wp2
 go_ret;exact ⟨by rw [show ZbJ k.vars p.e p.item=Z6 k.vars x p.item by rw [hx]; rfl]; rfl,K5.out⟩
theorem Zmx (k:KK) (p:KP) (hkd:p.kind=7) (hlen:p.tos.length=1) (B:Nat) (w:World) (hk:k.In w B) (ok:KOk k) (hi:p.One w B) (hB:B≤w.heap.size) :
  Calls Tryz.prog 64 #[.agg k.flat,.agg p.cells] w (Zu (.bool (Zef k.vars p.tos 1)) w):=by
 obtain ⟨W0,hW0⟩:∃ W,(w.alloc (.cells k.flat 34)).alloc (.cells p.cells 31)=W:=⟨_,rfl⟩
 obtain ⟨l1,l2,l3⟩:=Zf8 w k.flat p.cells 34 31;rw [hW0] at l1 l2 l3;have K:=Lh l1
 have HW:Hid (∀ w1:World,Below w.heap.size w w1→k.In w1 B∧p.One w1 B∧B≤w1.heap.size):=Lh fun w1 hb=>⟨hk.below (hb.mono hB),hi.below (hb.mono hB),Nat.le_trans hB hb.size⟩
 have hkw:=l2.lt;have hpw:=l3.lt
 have y3:((p.kind:Int) == 3)=false:=by simp [hkd]
 have y4:((p.kind:Int) == 4)=false:=by simp [hkd]
 have y5:((p.kind:Int) == 5)=false:=by simp [hkd]
 have y6:((p.kind:Int) == 6)=false:=by simp [hkd]
 have y7:((p.kind:Int) == 7)=true:=by simp [hkd]
 obtain ⟨x,hx⟩:=ZaR hlen;have hp0:=(HW.out W0 l1).2.1.2.1;rw [hx] at hp0;obtain ⟨b,off,y,hA,hb,hy,hin,c0,c1⟩:=kpl_row hp0 (k:=0) (by simp)
 obtain rfl:x=y:=by simpa using hy
 rw [Nat.zero_mul,Nat.add_zero] at c0 c1;have hbw:b < W0.heap.size:=Nat.lt_of_lt_of_le hb (HW.out W0 l1).2.2;have HIN:Hid (∀ w1:World,Below W0.heap.size W0 w1→x.In w1 B):=Lh fun w1 h=>hin.below (h.mono (HW.out W0 l1).2.2);simp only [KK.flat,KP.cells] at l2 l3 hW0 ⊢;obtain ⟨q0,q1,q2,q3,q4,q5,q6,q7,q8,q9,q10⟩:=l2.c11;simp at q0 q1 q2 q3 q4 q5 q6 q7 q8 q9 q10;obtain ⟨e0,e1,e2,e3,e4,e5,e6,e7⟩:=l3.c8;simp at e0 e1 e2 e3 e4 e5 e6 e7;clear l1 l2 l3 hk hi hkd;rw [hlen] at hW0 e4 ⊢;rw [hA] at e4;clear hA hin hy hp0 hlen;go_enter Tryz.func64,Tryz.ntmps64
 go_upto_region 16 with fail
 obtain ⟨ι,F,i0',h0',hFb,hcl⟩:=ZC W0;have Fq0:=famc hFb q0 hkw;have Fq1:=famc hFb q1 hkw;have Fq2:=famc hFb q2 hkw;have Fq3:=famc hFb q3 hkw;have Fq4:=famc hFb q4 hkw;have Fq5:=famc hFb q5 hkw;have Fq6:=famc hFb q6 hkw;have Fq7:=famc hFb q7 hkw;have Fq8:=famc hFb q8 hkw;have Fq9:=famc hFb q9 hkw;have Fq10:=famc hFb q10 hkw;have Fe0:=famc hFb e0 hpw;have Fe1:=famc hFb e1 hpw;have Fe2:=famc hFb e2 hpw;have Fe3:=famc hFb e3 hpw;have Fe4:=famc hFb e4 hpw;have Fe5:=famc hFb e5 hpw;have Fe6:=famc hFb e6 hpw;have Fe7:=famc hFb e7 hpw;have Fc0:=famc hFb c0 hbw;have Fc1:=famc hFb c1 hbw;have HCF:=Lh (fun i=>(show Calls Tryz.prog 81 #[.slice k.Av k.vars.length k.cv,.agg x.cells,.int .u8 1] (F i) (Zu (.bool (Zai k.vars x 1)) (F i)) from ZgV k.vars x 1 k.Av k.cv B (F i) (HW.out (F i) (K.out.trans ((hFb i).mono K.out.size))).1.1.2.1 ok.nv (HIN.out (F i) (hFb i)) (HW.out (F i) (K.out.trans ((hFb i).mono K.out.size))).2.2))
 haveI:Nonempty ι:=⟨i0'⟩
 refine Zb F i0' h0' (by kernel_rfl) (by kernel_rfl) ?_
 repeat (go_big_quiet_step (first
  | (go_at_call 81; refine (HCF.out _).mono ?_; rintro e w4 ⟨rfl,hb4⟩; exact ⟨rfl,hcl _ _ hb4⟩)))
 refine wpQuiet_nil ?_;intro i;have K5:=Lh (K.out.trans ((hFb i).mono K.out.size))
 go_wp2
 go_ret;exact ⟨by rw [show Zef k.vars p.tos 1=Zai k.vars x 1 by rw [hx]; rfl]; rfl,K5.out⟩
theorem Zmw (k:KK) (p:KP) (hkd:p.kind=8) (hlen:p.e.length=1) (B:Nat) (w:World) (hk:k.In w B) (ok:KOk k) (hi:p.One w B) (hB:B≤w.heap.size) :
  Calls Tryz.prog 64 #[.agg k.flat,.agg p.cells] w (Zu (.bool (ZbJ k.vars p.e 1)) w):=by
 obtain ⟨W0,hW0⟩:∃ W,(w.alloc (.cells k.flat 34)).alloc (.cells p.cells 31)=W:=⟨_,rfl⟩
 obtain ⟨l1,l2,l3⟩:=Zf8 w k.flat p.cells 34 31;rw [hW0] at l1 l2 l3;have K:=Lh l1
 have HW:Hid (∀ w1:World,Below w.heap.size w w1→k.In w1 B∧p.One w1 B∧B≤w1.heap.size):=Lh fun w1 hb=>⟨hk.below (hb.mono hB),hi.below (hb.mono hB),Nat.le_trans hB hb.size⟩
 have hkw:=l2.lt;have hpw:=l3.lt
 have y3:((p.kind:Int) == 3)=false:=by simp [hkd]
 have y4:((p.kind:Int) == 4)=false:=by simp [hkd]
 have y5:((p.kind:Int) == 5)=false:=by simp [hkd]
 have y6:((p.kind:Int) == 6)=false:=by simp [hkd]
 have y7:((p.kind:Int) == 7)=false:=by simp [hkd]
 have y8:((p.kind:Int) == 8)=true:=by simp [hkd]
 obtain ⟨x,hx⟩:=ZaR hlen;have hp0:=(HW.out W0 l1).2.1.2.2.1;rw [hx] at hp0;obtain ⟨b,off,y,hA,hb,hy,hin,c0,c1,c2,c3,c4,c5⟩:=Zba hp0 (k:=0) (by simp)
 obtain rfl:x=y:=by simpa using hy
 rw [Nat.zero_mul,Nat.add_zero] at c0 c1 c2 c3 c4 c5;have hbw:b < W0.heap.size:=Nat.lt_of_lt_of_le hb (HW.out W0 l1).2.2;have HIN:Hid (∀ w1:World,Below W0.heap.size W0 w1→x.In w1 B):=Lh fun w1 h=>hin.below (h.mono (HW.out W0 l1).2.2);simp only [KK.flat,KP.cells] at l2 l3 hW0 ⊢;obtain ⟨q0,q1,q2,q3,q4,q5,q6,q7,q8,q9,q10⟩:=l2.c11;simp at q0 q1 q2 q3 q4 q5 q6 q7 q8 q9 q10;obtain ⟨e0,e1,e2,e3,e4,e5,e6,e7⟩:=l3.c8;simp at e0 e1 e2 e3 e4 e5 e6 e7;clear l1 l2 l3 hk hi hkd;rw [hlen] at hW0 e5 ⊢;rw [hA] at e5;clear hA hin hy hp0 hlen;go_enter Tryz.func64,Tryz.ntmps64
 go_upto_region 18 with fail
 obtain ⟨ι,F,i0',h0',hFb,hcl⟩:=ZC W0;have Fq0:=famc hFb q0 hkw;have Fq1:=famc hFb q1 hkw;have Fq2:=famc hFb q2 hkw;have Fq3:=famc hFb q3 hkw;have Fq4:=famc hFb q4 hkw;have Fq5:=famc hFb q5 hkw;have Fq6:=famc hFb q6 hkw;have Fq7:=famc hFb q7 hkw;have Fq8:=famc hFb q8 hkw;have Fq9:=famc hFb q9 hkw;have Fq10:=famc hFb q10 hkw;have Fe0:=famc hFb e0 hpw;have Fe1:=famc hFb e1 hpw;have Fe2:=famc hFb e2 hpw;have Fe3:=famc hFb e3 hpw;have Fe4:=famc hFb e4 hpw;have Fe5:=famc hFb e5 hpw;have Fe6:=famc hFb e6 hpw;have Fe7:=famc hFb e7 hpw;have Fc0:=famc hFb c0 hbw;have Fc1:=famc hFb c1 hbw;have Fc2:=famc hFb c2 hbw;have Fc3:=famc hFb c3 hbw;have Fc4:=famc hFb c4 hbw;have Fc5:=famc hFb c5 hbw;have HCF:=Lh (fun i=>(show Calls Tryz.prog 82 #[.slice k.Av k.vars.length k.cv,.agg x.cells,.int .u8 1] (F i) (Zu (.bool (Z6 k.vars x 1)) (F i)) from ZfB k.vars x 1 (by simp) k.Av k.cv B (F i) (HW.out (F i) (K.out.trans ((hFb i).mono K.out.size))).1.1.2.1 ok.nv (HIN.out (F i) (hFb i)) (HW.out (F i) (K.out.trans ((hFb i).mono K.out.size))).2.2))
 haveI:Nonempty ι:=⟨i0'⟩
 refine Zb F i0' h0' (by kernel_rfl) (by kernel_rfl) ?_
 repeat (go_big_quiet_step (first
  | (go_at_call 82; refine (HCF.out _).mono ?_; rintro e w4 ⟨rfl,hb4⟩; exact ⟨rfl,hcl _ _ hb4⟩)))
 refine wpQuiet_nil ?_;intro i;have K5:=Lh (K.out.trans ((hFb i).mono K.out.size))
 go_wp2
 go_ret;exact ⟨by rw [show ZbJ k.vars p.e 1=Z6 k.vars x 1 by rw [hx]; rfl]; rfl,K5.out⟩
theorem ZkL (k:KK) (p:KP) (hkd:p.kind=13) (hlen:p.e.length=1) (B:Nat) (w:World) (hk:k.In w B) (ok:KOk k) (hi:p.One w B) (hB:B≤w.heap.size) :
  Calls Tryz.prog 64 #[.agg k.flat,.agg p.cells] w (Zu (.bool (ZbJ k.vars p.e 3)) w):=by
 obtain ⟨W0,hW0⟩:∃ W,(w.alloc (.cells k.flat 34)).alloc (.cells p.cells 31)=W:=⟨_,rfl⟩
 obtain ⟨l1,l2,l3⟩:=Zf8 w k.flat p.cells 34 31;rw [hW0] at l1 l2 l3;have K:=Lh l1
 have HW:Hid (∀ w1:World,Below w.heap.size w w1→k.In w1 B∧p.One w1 B∧B≤w1.heap.size):=Lh fun w1 hb=>⟨hk.below (hb.mono hB),hi.below (hb.mono hB),Nat.le_trans hB hb.size⟩
 have hkw:=l2.lt;have hpw:=l3.lt
 have y3:((p.kind:Int) == 3)=false:=by simp [hkd]
 have y4:((p.kind:Int) == 4)=false:=by simp [hkd]
 have y5:((p.kind:Int) == 5)=false:=by simp [hkd]
 have y6:((p.kind:Int) == 6)=false:=by simp [hkd]
 have y7:((p.kind:Int) == 7)=false:=by simp [hkd]
 have y8:((p.kind:Int) == 8)=false:=by simp [hkd]
 have y13:((p.kind:Int) == 13)=true:=by simp [hkd]
 obtain ⟨x,hx⟩:=ZaR hlen;have hp0:=(HW.out W0 l1).2.1.2.2.1;rw [hx] at hp0;obtain ⟨b,off,y,hA,hb,hy,hin,c0,c1,c2,c3,c4,c5⟩:=Zba hp0 (k:=0) (by simp)
 obtain rfl:x=y:=by simpa using hy
 rw [Nat.zero_mul,Nat.add_zero] at c0 c1 c2 c3 c4 c5;have hbw:b < W0.heap.size:=Nat.lt_of_lt_of_le hb (HW.out W0 l1).2.2;have HIN:Hid (∀ w1:World,Below W0.heap.size W0 w1→x.In w1 B):=Lh fun w1 h=>hin.below (h.mono (HW.out W0 l1).2.2);simp only [KK.flat,KP.cells] at l2 l3 hW0 ⊢;obtain ⟨q0,q1,q2,q3,q4,q5,q6,q7,q8,q9,q10⟩:=l2.c11;simp at q0 q1 q2 q3 q4 q5 q6 q7 q8 q9 q10;obtain ⟨e0,e1,e2,e3,e4,e5,e6,e7⟩:=l3.c8;simp at e0 e1 e2 e3 e4 e5 e6 e7;clear l1 l2 l3 hk hi hkd;rw [hlen] at hW0 e5 ⊢;rw [hA] at e5;clear hA hin hy hp0 hlen;go_enter Tryz.func64,Tryz.ntmps64
 go_upto_region 20 with fail
 obtain ⟨ι,F,i0',h0',hFb,hcl⟩:=ZC W0;have Fq0:=famc hFb q0 hkw;have Fq1:=famc hFb q1 hkw;have Fq2:=famc hFb q2 hkw;have Fq3:=famc hFb q3 hkw;have Fq4:=famc hFb q4 hkw;have Fq5:=famc hFb q5 hkw;have Fq6:=famc hFb q6 hkw;have Fq7:=famc hFb q7 hkw;have Fq8:=famc hFb q8 hkw;have Fq9:=famc hFb q9 hkw;have Fq10:=famc hFb q10 hkw;have Fe0:=famc hFb e0 hpw;have Fe1:=famc hFb e1 hpw;have Fe2:=famc hFb e2 hpw;have Fe3:=famc hFb e3 hpw;have Fe4:=famc hFb e4 hpw;have Fe5:=famc hFb e5 hpw;have Fe6:=famc hFb e6 hpw;have Fe7:=famc hFb e7 hpw;have Fc0:=famc hFb c0 hbw;have Fc1:=famc hFb c1 hbw;have Fc2:=famc hFb c2 hbw;have Fc3:=famc hFb c3 hbw;have Fc4:=famc hFb c4 hbw;have Fc5:=famc hFb c5 hbw;have HCF:=Lh (fun i=>(show Calls Tryz.prog 82 #[.slice k.Av k.vars.length k.cv,.agg x.cells,.int .u8 3] (F i) (Zu (.bool (Z6 k.vars x 3)) (F i)) from ZfB k.vars x 3 (by simp) k.Av k.cv B (F i) (HW.out (F i) (K.out.trans ((hFb i).mono K.out.size))).1.1.2.1 ok.nv (HIN.out (F i) (hFb i)) (HW.out (F i) (K.out.trans ((hFb i).mono K.out.size))).2.2))
 haveI:Nonempty ι:=⟨i0'⟩
 refine Zb F i0' h0' (by kernel_rfl) (by kernel_rfl) ?_
 repeat (go_big_quiet_step (first
  | (go_at_call 82; refine (HCF.out _).mono ?_; rintro e w4 ⟨rfl,hb4⟩; exact ⟨rfl,hcl _ _ hb4⟩)))
 refine wpQuiet_nil ?_;intro i;have K5:=Lh (K.out.trans ((hFb i).mono K.out.size))
 go_wp2
 go_ret;exact ⟨by rw [show ZbJ k.vars p.e 3=Z6 k.vars x 3 by rw [hx]; rfl]; rfl,K5.out⟩
theorem ZmB (k:KK) (p:KP) (hkd:p.kind=3)  (B:Nat) (w:World) (hk:k.In w B) (ok:KOk k) (hi:p.One w B) (hB:B≤w.heap.size) :
  Calls Tryz.prog 64 #[.agg k.flat,.agg p.cells] w (Zu (.bool (decide (0≤p.v∧p.v < k.vars.length))) w):=by
 obtain ⟨W0,hW0⟩:∃ W,(w.alloc (.cells k.flat 34)).alloc (.cells p.cells 31)=W:=⟨_,rfl⟩
 obtain ⟨l1,l2,l3⟩:=Zf8 w k.flat p.cells 34 31;rw [hW0] at l1 l2 l3;have K:=Lh l1
 have HW:Hid (∀ w1:World,Below w.heap.size w w1→k.In w1 B∧p.One w1 B∧B≤w1.heap.size):=Lh fun w1 hb=>⟨hk.below (hb.mono hB),hi.below (hb.mono hB),Nat.le_trans hB hb.size⟩
 have hkw:=l2.lt;have hpw:=l3.lt
 have y3:((p.kind:Int) == 3)=true:=by simp [hkd]
 simp only [KK.flat,KP.cells] at l2 l3 hW0 ⊢;obtain ⟨q0,q1,q2,q3,q4,q5,q6,q7,q8,q9,q10⟩:=l2.c11;simp at q0 q1 q2 q3 q4 q5 q6 q7 q8 q9 q10;obtain ⟨e0,e1,e2,e3,e4,e5,e6,e7⟩:=l3.c8;simp at e0 e1 e2 e3 e4 e5 e6 e7;clear l1 l2 l3 hk hi hkd
 by_cases h0:0≤p.v
 ·have HR:=Lh (show decide (0≤p.v∧p.v < k.vars.length)=decide (p.v < k.vars.length) by rw [decide_eq_decide]; omega);generalize decide (0≤p.v∧p.v < k.vars.length)=R at *;go_enter Tryz.func64,Tryz.ntmps64
  go_wp2
  go_ret;exact ⟨by refine Za rfl ?_; rw [HR.out],K.out⟩
 ·have HR:=Lh (show decide (0≤p.v∧p.v < k.vars.length)=false by rw [decide_eq_false]; omega);generalize decide (0≤p.v∧p.v < k.vars.length)=R at *;go_enter Tryz.func64,Tryz.ntmps64
  go_wp2
  go_ret;exact ⟨by refine Za rfl ?_; rw [HR.out],K.out⟩
end Go.Proofs.YtjndhfcfcedheaaGreatDoor
