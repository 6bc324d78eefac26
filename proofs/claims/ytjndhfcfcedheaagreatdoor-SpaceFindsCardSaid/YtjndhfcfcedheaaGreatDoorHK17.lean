/- Texts that belong together: KRD. -/
import Derived.Test.YtjndhfcfcedheaaGreatDoorHK16
set_option linter.unusedVariables false
set_option linter.unusedSimpArgs false
set_option maxRecDepth 100000
set_option maxHeartbeats 16000000
namespace Go.Proofs.YtjndhfcfcedheaaGreatDoor
open Go.RowKit
section
def Zcg (vs:List ZZ) (Av:Option Addr) (cv nv:Nat) (w:World) (y:KE) (q:Int) (p:Bool):Prop :=
 ∀ w1:World,Below w.heap.size w w1→Calls Tryz.prog 97 #[.slice Av nv cv,.agg #[.int .u8 y.kind,.int .u8 y.oper,.int .u8 y.tk,.int .i32 y.n,.int .i64 y.v,.slice y.A y.l.length y.c],.int .u8 q] w1 (Zu (.bool p) w1)
theorem Zcg.of {vs:List ZZ} {Av:Option Addr} {cv B:Nat} {w:World} {y:KE} (h:ZiC vs y) (q:Int) (hq:q=1∨q=2∨q=3) (hr:Zo w B 2 Av vs.length (Zgc vs)) (hl:vs.length≤256) (hi:y.In w B) (hB:B≤w.heap.size) :
  Zcg vs Av cv vs.length w y q (Zao vs y q):=fun w1 hb=>h q hq Av cv B w1 (hr.below (hb.mono hB)) hl (hi.below (hb.mono hB)) (Nat.le_trans hB hb.size)
def Zev (vs:List ZZ) (Av:Option Addr) (cv nv:Nat) (w:World) (cs:Array Value) (q:Int) (p:Bool):Prop :=
 ∀ w1:World,Below w.heap.size w w1→Calls Tryz.prog 107 #[.slice Av nv cv,.agg cs,.int .u8 q] w1 (Zu (.bool p) w1)
section
variable {vs:List ZZ} {Av:Option Addr} {cv nv:Nat} {w:World} {o t c b off:Nat} {n v q:Int} {y z:KE} {p1 p2 p3:Bool}
theorem ZjG (hb:b < w.heap.size) (hy:Zhb w b off y) (hq:q=1∨q=2∨q=3) (H1:Hid (Zcg vs Av cv nv w y 1 p1)) (H2:Hid (Zcg vs Av cv nv w y 2 p2)) (H3:Hid (Zcg vs Av cv nv w y 3 p3)) :
  Calls Tryz.prog 97 #[.slice Av nv cv,.agg #[.int .u8 6,.int .u8 o,.int .u8 t,.int .i32 n,.int .i64 v,.slice (some ⟨b,off,none⟩) 1 c],.int .u8 q] w (Zu (.bool ((t:Int) == q && (p1 || p2 || p3))) w):=by
 obtain ⟨W0,hW0⟩:∃ W,w.alloc (.cells #[.int .u8 6,.int .u8 o,.int .u8 t,.int .i32 n,.int .i64 v,.slice (some ⟨b,off,none⟩) 1 c] 65)=W:=⟨_,rfl⟩
 have b0:Blk W0 w.heap.size 65 #[.int .u8 6,.int .u8 o,.int .u8 t,.int .i32 n,.int .i64 v,.slice (some ⟨b,off,none⟩) 1 c]:=by rw [← hW0]; exact Blk.new w _ _
 have K0:Below w.heap.size w W0:=by rw [← hW0]; exact (Below.refl _ _).alloc (Nat.le_refl _) _
 have S:Hid (Zjt w W0 #[.int .u8 6,.int .u8 o,.int .u8 t,.int .i32 n,.int .i64 v,.slice (some ⟨b,off,none⟩) 1 c] 0 b off y):=Lh ⟨K0,b0,hy.below K0 hb,hb⟩;obtain ⟨c0,c1,c2,c3,c4,c5⟩:=S.out.row.six;obtain ⟨e0,e1,e2,e3,e4,e5⟩:=b0.c6;simp at e0 e1 e2 e3 e4 e5;clear b0 K0 hy;unfold Zcg at *
 obtain ⟨d,hd⟩:∃ d:Bool,((t:Int) == q)=d:=⟨_,rfl⟩
 rw [hd]
 rcases hq with rfl | rfl | rfl <;> cases d <;> cases p1 <;> cases p2
 all_goals
  go_enter Tryz.func97,Tryz.ntmps97
  go_wp2_with (first
   | (go_at_call 97; (with_reducible refine (H1.out _ S.out.bel).mono ?_); rintro e1 w1 ⟨rfl,hb1⟩
      replace S:=Lh (S.out.call hb1);obtain ⟨c0,c1,c2,c3,c4,c5⟩:=S.out.row.six;have x0:=S.out.box;obtain ⟨e0,e1,e2,e3,e4,e5⟩:=x0.c6;simp at e0 e1 e2 e3 e4 e5
      clear x0 hb1)
   | (go_at_call 97; (with_reducible refine (H2.out _ S.out.bel).mono ?_); rintro e1 w1 ⟨rfl,hb1⟩
      replace S:=Lh (S.out.call hb1);obtain ⟨c0,c1,c2,c3,c4,c5⟩:=S.out.row.six;have x0:=S.out.box;obtain ⟨e0,e1,e2,e3,e4,e5⟩:=x0.c6;simp at e0 e1 e2 e3 e4 e5
      clear x0 hb1)
   | (go_at_call 97; (with_reducible refine (H3.out _ S.out.bel).mono ?_); rintro e1 w1 ⟨rfl,hb1⟩
      replace S:=Lh (S.out.call hb1);obtain ⟨c0,c1,c2,c3,c4,c5⟩:=S.out.row.six;have x0:=S.out.box;obtain ⟨e0,e1,e2,e3,e4,e5⟩:=x0.c6;simp at e0 e1 e2 e3 e4 e5
      clear x0 hb1))
  all_goals (go_ret; exact ⟨by refine Za rfl ?_; simp,S.out.bel⟩)
theorem ZkZ (hb:b < w.heap.size) (hy:Zhb w b off y) (hq:q=1∨q=2∨q=3) (ho:23≤o∧o≤26) (H1:Hid (Zcg vs Av cv nv w y 1 p1)) (H3:Hid (Zcg vs Av cv nv w y 3 p3)) :
  Calls Tryz.prog 97 #[.slice Av nv cv,.agg #[.int .u8 4,.int .u8 o,.int .u8 t,.int .i32 n,.int .i64 v,.slice (some ⟨b,off,none⟩) 1 c],.int .u8 q] w (Zu (.bool (if decide (o=26)=true then q == 3 && p3 else q == 1 && p1)) w):=by
 obtain ⟨W0,hW0⟩:∃ W,w.alloc (.cells #[.int .u8 4,.int .u8 o,.int .u8 t,.int .i32 n,.int .i64 v,.slice (some ⟨b,off,none⟩) 1 c] 65)=W:=⟨_,rfl⟩
 have b0:Blk W0 w.heap.size 65 #[.int .u8 4,.int .u8 o,.int .u8 t,.int .i32 n,.int .i64 v,.slice (some ⟨b,off,none⟩) 1 c]:=by rw [← hW0]; exact Blk.new w _ _
 have K0:Below w.heap.size w W0:=by rw [← hW0]; exact (Below.refl _ _).alloc (Nat.le_refl _) _
 have S:Hid (Zjt w W0 #[.int .u8 4,.int .u8 o,.int .u8 t,.int .i32 n,.int .i64 v,.slice (some ⟨b,off,none⟩) 1 c] 0 b off y):=Lh ⟨K0,b0,hy.below K0 hb,hb⟩;obtain ⟨c0,c1,c2,c3,c4,c5⟩:=S.out.row.six;obtain ⟨e0,e1,e2,e3,e4,e5⟩:=b0.c6;simp at e0 e1 e2 e3 e4 e5;clear b0 K0 hy;unfold Zcg at *
 obtain ⟨d,hd⟩:∃ d:Bool,d=decide (o=26):=⟨_,rfl⟩
 have hd2:((o:Int) == 26)=d:=by rw [hd,Bool.eq_iff_iff]; simp; omega
 rw [← hd];clear hd ho
 rcases hq with rfl | rfl | rfl <;> cases d
 all_goals
  go_enter Tryz.func97,Tryz.ntmps97
  go_wp2_with (first
   | (go_at_call 97; (with_reducible refine (H1.out _ S.out.bel).mono ?_); rintro e1 w1 ⟨rfl,hb1⟩
      replace S:=Lh (S.out.call hb1);obtain ⟨c0,c1,c2,c3,c4,c5⟩:=S.out.row.six;have x0:=S.out.box;obtain ⟨e0,e1,e2,e3,e4,e5⟩:=x0.c6;simp at e0 e1 e2 e3 e4 e5
      clear x0 hb1)
   | (go_at_call 97; (with_reducible refine (H3.out _ S.out.bel).mono ?_); rintro e1 w1 ⟨rfl,hb1⟩
      replace S:=Lh (S.out.call hb1);obtain ⟨c0,c1,c2,c3,c4,c5⟩:=S.out.row.six;have x0:=S.out.box;obtain ⟨e0,e1,e2,e3,e4,e5⟩:=x0.c6;simp at e0 e1 e2 e3 e4 e5
      clear x0 hb1))
  all_goals (go_ret; exact ⟨by refine Za rfl ?_; simp,S.out.bel⟩)
theorem ZjF (hb:b < w.heap.size) (hy:Zhb w b off y) (hq:q=1∨q=2∨q=3) (ho:o≤13) (G1:Hid (Zev vs Av cv nv w #[.int .u8 5,.int .u8 o,.int .u8 t,.int .i32 n,.int .i64 v,.slice (some ⟨b,off,none⟩) 2 c] 1 p1)) :
  Calls Tryz.prog 97 #[.slice Av nv cv,.agg #[.int .u8 5,.int .u8 o,.int .u8 t,.int .i32 n,.int .i64 v,.slice (some ⟨b,off,none⟩) 2 c],.int .u8 q] w (Zu (.bool (q == 1 && p1)) w):=by
 obtain ⟨W0,hW0⟩:∃ W,w.alloc (.cells #[.int .u8 5,.int .u8 o,.int .u8 t,.int .i32 n,.int .i64 v,.slice (some ⟨b,off,none⟩) 2 c] 65)=W:=⟨_,rfl⟩
 have b0:Blk W0 w.heap.size 65 #[.int .u8 5,.int .u8 o,.int .u8 t,.int .i32 n,.int .i64 v,.slice (some ⟨b,off,none⟩) 2 c]:=by rw [← hW0]; exact Blk.new w _ _
 have K0:Below w.heap.size w W0:=by rw [← hW0]; exact (Below.refl _ _).alloc (Nat.le_refl _) _
 have S:Hid (Zjt w W0 #[.int .u8 5,.int .u8 o,.int .u8 t,.int .i32 n,.int .i64 v,.slice (some ⟨b,off,none⟩) 2 c] 0 b off y):=Lh ⟨K0,b0,hy.below K0 hb,hb⟩;obtain ⟨c0,c1,c2,c3,c4,c5⟩:=S.out.row.six;obtain ⟨e0,e1,e2,e3,e4,e5⟩:=b0.c6;simp at e0 e1 e2 e3 e4 e5;clear b0 K0 hy;unfold Zev at *
 have f13:(o:Int)≤13:=by omega
 clear ho
 rcases hq with rfl | rfl | rfl
 all_goals
  go_enter Tryz.func97,Tryz.ntmps97
  go_wp2_with (first
   | (go_at_call 107; (with_reducible refine (G1.out _ S.out.bel).mono ?_); rintro e1 w1 ⟨rfl,hb1⟩
      replace S:=Lh (S.out.call hb1);obtain ⟨c0,c1,c2,c3,c4,c5⟩:=S.out.row.six;have x0:=S.out.box;obtain ⟨e0,e1,e2,e3,e4,e5⟩:=x0.c6;simp at e0 e1 e2 e3 e4 e5
      clear x0 hb1))
  all_goals (go_ret; exact ⟨by refine Za rfl ?_; simp,S.out.bel⟩)
theorem Zk0 (hb:b < w.heap.size) (hy:Zhb w b off y) (hq:q=1∨q=2) (ho:¬ o≤13) :
  Calls Tryz.prog 97 #[.slice Av nv cv,.agg #[.int .u8 5,.int .u8 o,.int .u8 t,.int .i32 n,.int .i64 v,.slice (some ⟨b,off,none⟩) 2 c],.int .u8 q] w (Zu (.bool (false)) w):=by
 obtain ⟨W0,hW0⟩:∃ W,w.alloc (.cells #[.int .u8 5,.int .u8 o,.int .u8 t,.int .i32 n,.int .i64 v,.slice (some ⟨b,off,none⟩) 2 c] 65)=W:=⟨_,rfl⟩
 have b0:Blk W0 w.heap.size 65 #[.int .u8 5,.int .u8 o,.int .u8 t,.int .i32 n,.int .i64 v,.slice (some ⟨b,off,none⟩) 2 c]:=by rw [← hW0]; exact Blk.new w _ _
 have K0:Below w.heap.size w W0:=by rw [← hW0]; exact (Below.refl _ _).alloc (Nat.le_refl _) _
 have S:Hid (Zjt w W0 #[.int .u8 5,.int .u8 o,.int .u8 t,.int .i32 n,.int .i64 v,.slice (some ⟨b,off,none⟩) 2 c] 0 b off y):=Lh ⟨K0,b0,hy.below K0 hb,hb⟩;obtain ⟨c0,c1,c2,c3,c4,c5⟩:=S.out.row.six;obtain ⟨e0,e1,e2,e3,e4,e5⟩:=b0.c6;simp at e0 e1 e2 e3 e4 e5;clear b0 K0 hy
 have f13:¬ (o:Int)≤13:=by omega
 clear ho
 rcases hq with rfl | rfl
 all_goals
  go_enter Tryz.func97,Tryz.ntmps97
  go_wp2_with (first
   | fail)
  all_goals (go_ret; exact ⟨by refine Za rfl ?_; rfl,S.out.bel⟩)
theorem Zk2 (hb:b < w.heap.size) (hy:Zhb w b off y) (hq:q=3) (ho:o=14∨o=15) (G1:Hid (Zev vs Av cv nv w #[.int .u8 5,.int .u8 o,.int .u8 t,.int .i32 n,.int .i64 v,.slice (some ⟨b,off,none⟩) 2 c] 1 p1)) (G2:Hid (Zev vs Av cv nv w #[.int .u8 5,.int .u8 o,.int .u8 t,.int .i32 n,.int .i64 v,.slice (some ⟨b,off,none⟩) 2 c] 2 p2)) (G3:Hid (Zev vs Av cv nv w #[.int .u8 5,.int .u8 o,.int .u8 t,.int .i32 n,.int .i64 v,.slice (some ⟨b,off,none⟩) 2 c] 3 p3)) :
  Calls Tryz.prog 97 #[.slice Av nv cv,.agg #[.int .u8 5,.int .u8 o,.int .u8 t,.int .i32 n,.int .i64 v,.slice (some ⟨b,off,none⟩) 2 c],.int .u8 q] w (Zu (.bool (p1 || p2 || p3)) w):=by
 obtain ⟨W0,hW0⟩:∃ W,w.alloc (.cells #[.int .u8 5,.int .u8 o,.int .u8 t,.int .i32 n,.int .i64 v,.slice (some ⟨b,off,none⟩) 2 c] 65)=W:=⟨_,rfl⟩
 have b0:Blk W0 w.heap.size 65 #[.int .u8 5,.int .u8 o,.int .u8 t,.int .i32 n,.int .i64 v,.slice (some ⟨b,off,none⟩) 2 c]:=by rw [← hW0]; exact Blk.new w _ _
 have K0:Below w.heap.size w W0:=by rw [← hW0]; exact (Below.refl _ _).alloc (Nat.le_refl _) _
 have S:Hid (Zjt w W0 #[.int .u8 5,.int .u8 o,.int .u8 t,.int .i32 n,.int .i64 v,.slice (some ⟨b,off,none⟩) 2 c] 0 b off y):=Lh ⟨K0,b0,hy.below K0 hb,hb⟩;obtain ⟨c0,c1,c2,c3,c4,c5⟩:=S.out.row.six;obtain ⟨e0,e1,e2,e3,e4,e5⟩:=b0.c6;simp at e0 e1 e2 e3 e4 e5;clear b0 K0 hy;unfold Zev at *;subst hq
 have f13:¬ (o:Int)≤13:=by omega
 obtain ⟨d,hd⟩:∃ d:Bool,((o:Int) == 14)=d:=⟨_,rfl⟩
 have hd2:d=false→((o:Int) == 15)=true:=by rintro rfl; simp at hd ⊢; omega
 clear ho
 cases d
 ·have f15:=hd2 rfl;clear hd2
  cases p1 <;> cases p2
  all_goals
   go_enter Tryz.func97,Tryz.ntmps97
   go_wp2_with (first
    | (go_at_call 107; (with_reducible refine (G1.out _ S.out.bel).mono ?_); rintro e1 w1 ⟨rfl,hb1⟩
       replace S:=Lh (S.out.call hb1);obtain ⟨c0,c1,c2,c3,c4,c5⟩:=S.out.row.six;have x0:=S.out.box;obtain ⟨e0,e1,e2,e3,e4,e5⟩:=x0.c6;simp at e0 e1 e2 e3 e4 e5
       clear x0 hb1)
    | (go_at_call 107; (with_reducible refine (G2.out _ S.out.bel).mono ?_); rintro e1 w1 ⟨rfl,hb1⟩
       replace S:=Lh (S.out.call hb1);obtain ⟨c0,c1,c2,c3,c4,c5⟩:=S.out.row.six;have x0:=S.out.box;obtain ⟨e0,e1,e2,e3,e4,e5⟩:=x0.c6;simp at e0 e1 e2 e3 e4 e5
       clear x0 hb1)
    | (go_at_call 107; (with_reducible refine (G3.out _ S.out.bel).mono ?_); rintro e1 w1 ⟨rfl,hb1⟩
       replace S:=Lh (S.out.call hb1);obtain ⟨c0,c1,c2,c3,c4,c5⟩:=S.out.row.six;have x0:=S.out.box;obtain ⟨e0,e1,e2,e3,e4,e5⟩:=x0.c6;simp at e0 e1 e2 e3 e4 e5
       clear x0 hb1))
   all_goals (go_ret; exact ⟨by refine Za rfl ?_; simp,S.out.bel⟩)
 ·clear hd2
  cases p1 <;> cases p2
  all_goals
   go_enter Tryz.func97,Tryz.ntmps97
   go_wp2_with (first
    | (go_at_call 107; (with_reducible refine (G1.out _ S.out.bel).mono ?_); rintro e1 w1 ⟨rfl,hb1⟩
       replace S:=Lh (S.out.call hb1);obtain ⟨c0,c1,c2,c3,c4,c5⟩:=S.out.row.six;have x0:=S.out.box;obtain ⟨e0,e1,e2,e3,e4,e5⟩:=x0.c6;simp at e0 e1 e2 e3 e4 e5
       clear x0 hb1)
    | (go_at_call 107; (with_reducible refine (G2.out _ S.out.bel).mono ?_); rintro e1 w1 ⟨rfl,hb1⟩
       replace S:=Lh (S.out.call hb1);obtain ⟨c0,c1,c2,c3,c4,c5⟩:=S.out.row.six;have x0:=S.out.box;obtain ⟨e0,e1,e2,e3,e4,e5⟩:=x0.c6;simp at e0 e1 e2 e3 e4 e5
       clear x0 hb1)
    | (go_at_call 107; (with_reducible refine (G3.out _ S.out.bel).mono ?_); rintro e1 w1 ⟨rfl,hb1⟩
       replace S:=Lh (S.out.call hb1);obtain ⟨c0,c1,c2,c3,c4,c5⟩:=S.out.row.six;have x0:=S.out.box;obtain ⟨e0,e1,e2,e3,e4,e5⟩:=x0.c6;simp at e0 e1 e2 e3 e4 e5
       clear x0 hb1))
   all_goals (go_ret; exact ⟨by refine Za rfl ?_; simp,S.out.bel⟩)
theorem Zk1 (hb:b < w.heap.size) (hy:Zhb w b off y) (hq:q=3) (ho:16≤o∧o≤19) (G1:Hid (Zev vs Av cv nv w #[.int .u8 5,.int .u8 o,.int .u8 t,.int .i32 n,.int .i64 v,.slice (some ⟨b,off,none⟩) 2 c] 1 p1)) (G2:Hid (Zev vs Av cv nv w #[.int .u8 5,.int .u8 o,.int .u8 t,.int .i32 n,.int .i64 v,.slice (some ⟨b,off,none⟩) 2 c] 2 p2)) :
  Calls Tryz.prog 97 #[.slice Av nv cv,.agg #[.int .u8 5,.int .u8 o,.int .u8 t,.int .i32 n,.int .i64 v,.slice (some ⟨b,off,none⟩) 2 c],.int .u8 q] w (Zu (.bool (p1 || p2)) w):=by
 obtain ⟨W0,hW0⟩:∃ W,w.alloc (.cells #[.int .u8 5,.int .u8 o,.int .u8 t,.int .i32 n,.int .i64 v,.slice (some ⟨b,off,none⟩) 2 c] 65)=W:=⟨_,rfl⟩
 have b0:Blk W0 w.heap.size 65 #[.int .u8 5,.int .u8 o,.int .u8 t,.int .i32 n,.int .i64 v,.slice (some ⟨b,off,none⟩) 2 c]:=by rw [← hW0]; exact Blk.new w _ _
 have K0:Below w.heap.size w W0:=by rw [← hW0]; exact (Below.refl _ _).alloc (Nat.le_refl _) _
 have S:Hid (Zjt w W0 #[.int .u8 5,.int .u8 o,.int .u8 t,.int .i32 n,.int .i64 v,.slice (some ⟨b,off,none⟩) 2 c] 0 b off y):=Lh ⟨K0,b0,hy.below K0 hb,hb⟩;obtain ⟨c0,c1,c2,c3,c4,c5⟩:=S.out.row.six;obtain ⟨e0,e1,e2,e3,e4,e5⟩:=b0.c6;simp at e0 e1 e2 e3 e4 e5;clear b0 K0 hy;unfold Zev at *;subst hq
 have f13:¬ (o:Int)≤13:=by omega
 have f14:((o:Int) == 14)=false:=by simp; omega
 have f15:((o:Int) == 15)=false:=by simp; omega
 have f19:(o:Int)≤19:=by omega
 clear ho
 cases p1
 all_goals
  go_enter Tryz.func97,Tryz.ntmps97
  go_wp2_with (first
   | (go_at_call 107; (with_reducible refine (G1.out _ S.out.bel).mono ?_); rintro e1 w1 ⟨rfl,hb1⟩
      replace S:=Lh (S.out.call hb1);obtain ⟨c0,c1,c2,c3,c4,c5⟩:=S.out.row.six;have x0:=S.out.box;obtain ⟨e0,e1,e2,e3,e4,e5⟩:=x0.c6;simp at e0 e1 e2 e3 e4 e5
      clear x0 hb1)
   | (go_at_call 107; (with_reducible refine (G2.out _ S.out.bel).mono ?_); rintro e1 w1 ⟨rfl,hb1⟩
      replace S:=Lh (S.out.call hb1);obtain ⟨c0,c1,c2,c3,c4,c5⟩:=S.out.row.six;have x0:=S.out.box;obtain ⟨e0,e1,e2,e3,e4,e5⟩:=x0.c6;simp at e0 e1 e2 e3 e4 e5
      clear x0 hb1))
  all_goals (go_ret; exact ⟨by refine Za rfl ?_; simp,S.out.bel⟩)
theorem Zk4 (hb:b < w.heap.size) (hy:Zhb w b off y) (hq:q=3) (ho:o=22) (G1:Hid (Zev vs Av cv nv w #[.int .u8 5,.int .u8 o,.int .u8 t,.int .i32 n,.int .i64 v,.slice (some ⟨b,off,none⟩) 2 c] 1 p1)) :
  Calls Tryz.prog 97 #[.slice Av nv cv,.agg #[.int .u8 5,.int .u8 o,.int .u8 t,.int .i32 n,.int .i64 v,.slice (some ⟨b,off,none⟩) 2 c],.int .u8 q] w (Zu (.bool (p1)) w):=by
 obtain ⟨W0,hW0⟩:∃ W,w.alloc (.cells #[.int .u8 5,.int .u8 o,.int .u8 t,.int .i32 n,.int .i64 v,.slice (some ⟨b,off,none⟩) 2 c] 65)=W:=⟨_,rfl⟩
 have b0:Blk W0 w.heap.size 65 #[.int .u8 5,.int .u8 o,.int .u8 t,.int .i32 n,.int .i64 v,.slice (some ⟨b,off,none⟩) 2 c]:=by rw [← hW0]; exact Blk.new w _ _
 have K0:Below w.heap.size w W0:=by rw [← hW0]; exact (Below.refl _ _).alloc (Nat.le_refl _) _
 have S:Hid (Zjt w W0 #[.int .u8 5,.int .u8 o,.int .u8 t,.int .i32 n,.int .i64 v,.slice (some ⟨b,off,none⟩) 2 c] 0 b off y):=Lh ⟨K0,b0,hy.below K0 hb,hb⟩;obtain ⟨c0,c1,c2,c3,c4,c5⟩:=S.out.row.six;obtain ⟨e0,e1,e2,e3,e4,e5⟩:=b0.c6;simp at e0 e1 e2 e3 e4 e5;clear b0 K0 hy;unfold Zev at *;subst hq
 have f13:¬ (o:Int)≤13:=by omega
 have f14:((o:Int) == 14)=false:=by simp; omega
 have f15:((o:Int) == 15)=false:=by simp; omega
 have f19:¬ (o:Int)≤19:=by omega
 have f22:((o:Int) == 22)=true:=by simp; omega
 clear ho
 all_goals
  go_enter Tryz.func97,Tryz.ntmps97
  go_wp2_with (first
   | (go_at_call 107; (with_reducible refine (G1.out _ S.out.bel).mono ?_); rintro e1 w1 ⟨rfl,hb1⟩
      replace S:=Lh (S.out.call hb1);obtain ⟨c0,c1,c2,c3,c4,c5⟩:=S.out.row.six;have x0:=S.out.box;obtain ⟨e0,e1,e2,e3,e4,e5⟩:=x0.c6;simp at e0 e1 e2 e3 e4 e5
      clear x0 hb1))
  all_goals (go_ret; exact ⟨by refine Za rfl ?_; rfl,S.out.bel⟩)
theorem Zk3 (hb:b < w.heap.size) (hy:Zhb w b off y) (hq:q=3) (ho:20≤o∧o≠22) (G3:Hid (Zev vs Av cv nv w #[.int .u8 5,.int .u8 o,.int .u8 t,.int .i32 n,.int .i64 v,.slice (some ⟨b,off,none⟩) 2 c] 3 p3)) :
  Calls Tryz.prog 97 #[.slice Av nv cv,.agg #[.int .u8 5,.int .u8 o,.int .u8 t,.int .i32 n,.int .i64 v,.slice (some ⟨b,off,none⟩) 2 c],.int .u8 q] w (Zu (.bool (p3)) w):=by
 obtain ⟨W0,hW0⟩:∃ W,w.alloc (.cells #[.int .u8 5,.int .u8 o,.int .u8 t,.int .i32 n,.int .i64 v,.slice (some ⟨b,off,none⟩) 2 c] 65)=W:=⟨_,rfl⟩
 have b0:Blk W0 w.heap.size 65 #[.int .u8 5,.int .u8 o,.int .u8 t,.int .i32 n,.int .i64 v,.slice (some ⟨b,off,none⟩) 2 c]:=by rw [← hW0]; exact Blk.new w _ _
 have K0:Below w.heap.size w W0:=by rw [← hW0]; exact (Below.refl _ _).alloc (Nat.le_refl _) _
 have S:Hid (Zjt w W0 #[.int .u8 5,.int .u8 o,.int .u8 t,.int .i32 n,.int .i64 v,.slice (some ⟨b,off,none⟩) 2 c] 0 b off y):=Lh ⟨K0,b0,hy.below K0 hb,hb⟩;obtain ⟨c0,c1,c2,c3,c4,c5⟩:=S.out.row.six;obtain ⟨e0,e1,e2,e3,e4,e5⟩:=b0.c6;simp at e0 e1 e2 e3 e4 e5;clear b0 K0 hy;unfold Zev at *;subst hq
 have f13:¬ (o:Int)≤13:=by omega
 have f14:((o:Int) == 14)=false:=by simp; omega
 have f15:((o:Int) == 15)=false:=by simp; omega
 have f19:¬ (o:Int)≤19:=by omega
 have f22:((o:Int) == 22)=false:=by simp; omega
 clear ho
 all_goals
  go_enter Tryz.func97,Tryz.ntmps97
  go_wp2_with (first
   | (go_at_call 107; (with_reducible refine (G3.out _ S.out.bel).mono ?_); rintro e1 w1 ⟨rfl,hb1⟩
      replace S:=Lh (S.out.call hb1);obtain ⟨c0,c1,c2,c3,c4,c5⟩:=S.out.row.six;have x0:=S.out.box;obtain ⟨e0,e1,e2,e3,e4,e5⟩:=x0.c6;simp at e0 e1 e2 e3 e4 e5
      clear x0 hb1))
  all_goals (go_ret; exact ⟨by refine Za rfl ?_; rfl,S.out.bel⟩)
end
end
end Go.Proofs.YtjndhfcfcedheaaGreatDoor
