/- Texts that belong together: KQ. -/
import Derived.Test.YtjndhfcfcedheaaGreatDoorHK6
set_option linter.unusedVariables false
set_option linter.unusedSimpArgs false
set_option maxRecDepth 100000
set_option maxHeartbeats 16000000
namespace Go.Proofs.YtjndhfcfcedheaaGreatDoor
open Go.RowKit
def KG.flat (g:KG):Array Value:=#[.int .u8 g.kind,.int .u8 g.cond.kind,.int .u8 g.cond.oper,.int .u8 g.cond.tk,.int .i32 g.cond.n,.int .i64 g.cond.v,.slice g.cond.A g.cond.l.length g.cond.c,.int .i64 g.c,.int .u8 g.item,.int .i64 g.dst.v,.slice g.dst.A g.dst.l.length g.dst.c,
 .int .u8 g.time.kind,.int .u8 g.time.oper,.int .u8 g.time.tk,.int .i32 g.time.n,.int .i64 g.time.v,.slice g.time.A g.time.l.length g.time.c,.slice g.Ab g.body.length g.cb]
theorem ZpP (g:KG) (i t:Bool) (w:World):Calls Tryz.prog 105 #[.agg g.flat,.bool i,.bool t] w (Zu (.bool ((i || ZhD g) && (t || ZdW g.time))) w):=by
 obtain ⟨gk,⟨k1,o1,t1,n1,v1,A1,c1,l1⟩,gc,gi,⟨pv,pA,pc,pl⟩,⟨k2,o2,t2,n2,v2,A2,c2,l2⟩,Ab,cb,body⟩:=g;have HR:=Lh (show ZhD ⟨gk,⟨k1,o1,t1,n1,v1,A1,c1,l1⟩,gc,gi,⟨pv,pA,pc,pl⟩,⟨k2,o2,t2,n2,v2,A2,c2,l2⟩,Ab,cb,body⟩=decide (gc=0∧gi=0∧pv=0∧pl.length=0) from rfl);have HT:=Lh (show ZdW ⟨k2,o2,t2,n2,v2,A2,c2,l2⟩=decide (k2=0∧o2=0∧t2=0∧n2=0∧v2=0∧l2.length=0) from rfl);generalize ZhD ⟨gk,⟨k1,o1,t1,n1,v1,A1,c1,l1⟩,gc,gi,⟨pv,pA,pc,pl⟩,⟨k2,o2,t2,n2,v2,A2,c2,l2⟩,Ab,cb,body⟩=R1 at *;generalize ZdW ⟨k2,o2,t2,n2,v2,A2,c2,l2⟩=R2 at *;simp only [KG.flat];generalize pl.length=pm at *;generalize l1.length=m1 at *;generalize l2.length=m2 at *;generalize body.length=mb at *
 cases i <;> cases t
 all_goals
  go_enter Tryz.func105,Tryz.ntmps105
  go_wp2
  all_goals (go_ret; exact ⟨by refine Za rfl ?_; simp only [HR.out,HT.out]; rw [Bool.eq_iff_iff]; simp_all <;> omega,Z1 _ _ _ _ _⟩)
end Go.Proofs.YtjndhfcfcedheaaGreatDoor
