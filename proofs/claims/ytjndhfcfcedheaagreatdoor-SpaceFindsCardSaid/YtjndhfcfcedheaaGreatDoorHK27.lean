/- Texts that belong together: KRI. -/
import Derived.Test.YtjndhfcfcedheaaGreatDoorHK18
import Derived.Test.YtjndhfcfcedheaaGreatDoorHK7
set_option linter.unusedVariables false
set_option linter.unusedSimpArgs false
set_option maxRecDepth 100000
set_option maxHeartbeats 16000000
namespace Go.Proofs.YtjndhfcfcedheaaGreatDoor
open Go.RowKit
structure ZqU (w W:World) (ks gs:Array Value):Prop where
 bel:Below w.heap.size w W
 kb:Blk W w.heap.size 34 ks
 gb:Blk W (w.heap.size+1) 109 gs
theorem ZqU.call {w W W1:World} {ks gs:Array Value} (h:ZqU w W ks gs) (hb:Below W.heap.size W W1):ZqU w W1 ks gs:=⟨h.bel.trans (hb.mono h.bel.size),h.kb.call hb,h.gb.call hb⟩
theorem ZmI (k:KK) (kd:Nat) (g:KG) (B:Nat) (w:World) (hk:k.In w B) (ok:KOk k) (hi:g.One w B) (hB:B≤w.heap.size) :
  Calls Tryz.prog 85 #[.agg k.flat,.int .u8 kd,.agg g.flat] w (Zu (.bool (ZR k.vars k.chans.length (kd == 12) g)) w):=by
 obtain ⟨W0,hW0⟩:∃ W,(w.alloc (.cells k.flat 34)).alloc (.cells g.flat 109)=W:=⟨_,rfl⟩
 obtain ⟨l1,l2,l3⟩:=Zf8 w k.flat g.flat 34 109;rw [hW0] at l1 l2 l3;have S:Hid (ZqU w W0 k.flat g.flat):=Lh ⟨l1,l2,l3⟩
 have HW:Hid (∀ w1:World,Below w.heap.size w w1→k.In w1 B∧g.One w1 B∧B≤w1.heap.size):=Lh fun w1 hb=>⟨hk.below (hb.mono hB),hi.below (hb.mono hB),Nat.le_trans hB hb.size⟩
 have HC:=Lh (fun (w1:World) (hb:Below w.heap.size w w1)=>show Calls Tryz.prog 82 #[.slice k.Av k.vars.length k.cv,.agg g.cond.cells,.int .u8 3] w1 (Zu (.bool (Z6 k.vars g.cond 3)) w1) from
  ZfB k.vars g.cond 3 (by simp) k.Av k.cv B w1 (HW.out w1 hb).1.1.2.1 ok.nv (HW.out w1 hb).2.1.2.1 (HW.out w1 hb).2.2)
 have HT:=Lh (fun (w1:World) (hb:Below w.heap.size w w1)=>show Calls Tryz.prog 82 #[.slice k.Av k.vars.length k.cv,.agg g.time.cells,.int .u8 1] w1 (Zu (.bool (Z6 k.vars g.time 1)) w1) from
  ZfB k.vars g.time 1 (by simp) k.Av k.cv B w1 (HW.out w1 hb).1.1.2.1 ok.nv (HW.out w1 hb).2.1.2.2.2.1 (HW.out w1 hb).2.2)
 have HI:=Lh (fun (w1:World) (hb:Below w.heap.size w w1)=>ZnO k g.c g.item g.dst B w1 (HW.out w1 hb).1 ok (HW.out w1 hb).2.1.2.2.1 (HW.out w1 hb).2.2)
 have HR:=Lh (show ZR k.vars k.chans.length (kd == 12) g=(decide (g.body.length=1) && Z6 k.vars g.cond 3 &&
  match g.kind with
  | 1=>(kd == 12) && ZdW g.time && ZhD g
  | 2=>!(kd == 12) && ZdW g.time && ZhD g
  | 3=>!(kd == 12) && ZdW g.time && Zbg k.vars k.chans.length g.c g.item g.dst
  | 4=>!(kd == 12) && ZhD g && Z6 k.vars g.time 1
  | _=>false) from rfl)
 have HN1:=Lh (show ZhD g=decide (g.c=0∧g.item=0∧g.dst.v=0∧g.dst.l.length=0) from rfl);have HN2:=Lh (show ZdW g.time=decide (g.time.kind=0∧g.time.oper=0∧g.time.tk=0∧g.time.n=0∧g.time.v=0∧g.time.l.length=0) from rfl);generalize ZR k.vars k.chans.length (kd == 12) g=R at *;generalize Z6 k.vars g.time 1=fT at *;generalize Z6 k.vars g.cond 3=fC at *;generalize Zbg k.vars k.chans.length g.c g.item g.dst=fI at *;generalize ZdW g.time=nT at *;generalize ZhD g=nI at *;clear HW hk ok hi l1;obtain ⟨gk,⟨k1,o1,t1,n1,v1,A1,c1,ll1⟩,gc,gi,⟨pv,pA,pc,pl⟩,⟨k2,o2,t2,n2,v2,A2,c2,ll2⟩,Ab,cb,body⟩:=g;simp only [KK.flat,KG.flat,KE.cells,KPl.cells] at *;generalize body.length=mb at *;generalize pl.length=pm at *;generalize ll2.length=m2 at *;obtain ⟨q0,q1,q2,q3,q4,q5,q6,q7,q8,q9,q10⟩:=l2.c11;simp at q0 q1 q2 q3 q4 q5 q6 q7 q8 q9 q10;have e0:=l3.cell 0;have e1:=l3.cell 1;have e2:=l3.cell 2;have e3:=l3.cell 3;have e4:=l3.cell 4;have e5:=l3.cell 5;have e6:=l3.cell 6;have e7:=l3.cell 7;have e8:=l3.cell 8;have e9:=l3.cell 9;have e10:=l3.cell 10;have e11:=l3.cell 11;have e12:=l3.cell 12;have e13:=l3.cell 13;have e14:=l3.cell 14;have e15:=l3.cell 15;have e16:=l3.cell 16;have e17:=l3.cell 17;simp at e0 e1 e2 e3 e4 e5 e6 e7 e8 e9 e10 e11 e12 e13 e14 e15 e16 e17;clear l2 l3
 obtain ⟨d12,hd12⟩:∃ d:Bool,(kd == 12)=d:=⟨_,rfl⟩
 have f12:((kd:Int) == 12)=d12:=by rw [← hd12,Bool.eq_iff_iff]; simp; omega
 rw [hd12] at HR;have HDX:Hid (d12=true∧((kd:Int) == 12)=true∧((kd:Int) != 12)=false∨d12=false∧((kd:Int) == 12)=false∧((kd:Int) != 12)=true):=Lh (by rw [← hd12]; by_cases h:kd=12 <;> simp [h]; omega);clear hd12 f12
 by_cases hm:mb=1
 ·subst hm
  cases fC with
  | false =>
    have HR2:Hid (R=false):=Lh (by rw [HR.out]; simp);go_enter Tryz.func85,Tryz.ntmps85
    go_wp2_with (go_at_call 82; (with_reducible refine (HC.out _ S.out.bel).mono ?_); rintro e1 w1 ⟨rfl,hb1⟩)
    go_ret;exact ⟨by refine Za rfl ?_; rw [HR2.out],S.out.bel.trans (hb1.mono S.out.bel.size)⟩
  | true =>
    go_enter Tryz.func85,Tryz.ntmps85
    go_upto_region 3 with (first
     | (go_at_call 82; (with_reducible refine (HC.out _ S.out.bel).mono ?_); rintro e1 w1 ⟨rfl,hb1⟩
        replace S:=Lh (S.out.call hb1);have x1:=S.out.gb;have x0:=S.out.kb;obtain ⟨q0,q1,q2,q3,q4,q5,q6,q7,q8,q9,q10⟩:=x0.c11;simp at q0 q1 q2 q3 q4 q5 q6 q7 q8 q9 q10;have e0:=x1.cell 0;have e1:=x1.cell 1;have e2:=x1.cell 2;have e3:=x1.cell 3;have e4:=x1.cell 4;have e5:=x1.cell 5;have e6:=x1.cell 6;have e7:=x1.cell 7;have e8:=x1.cell 8;have e9:=x1.cell 9;have e10:=x1.cell 10;have e11:=x1.cell 11;have e12:=x1.cell 12;have e13:=x1.cell 13;have e14:=x1.cell 14;have e15:=x1.cell 15;have e16:=x1.cell 16;have e17:=x1.cell 17;simp at e0 e1 e2 e3 e4 e5 e6 e7 e8 e9 e10 e11 e12 e13 e14 e15 e16 e17
        clear x0 x1 hb1))
    generalize Value.agg #[.int .u8 gk,.int .u8 k1,.int .u8 o1,.int .u8 t1,.int .i32 n1,.int .i64 v1,.slice A1 ll1.length c1,.int .i64 gc,.int .u8 gi,.int .i64 pv,.slice pA pm pc,.int .u8 k2,.int .u8 o2,.int .u8 t2,.int .i32 n2,.int .i64 v2,.slice A2 m2 c2,.slice Ab ((1:Nat):Nat) cb]=vg
    go_cut [7] (fun s7 wx=>s7 = .bool (!nT)∧wx=w1)
    case first =>
     go_wp2
     all_goals
      go_meet;exact ⟨by rw [HN2.out]; simp_all; try (rw [← decide_not,decide_eq_decide]; omega),rfl⟩
    case rest =>
     obtain ⟨rfl,rfl⟩:=hcut
     go_upto_region 4 with fail
     go_cut [8] (fun s8 wx=>s8 = .bool (!nI)∧wx=wc)
     case first =>
      go_wp2
      all_goals
       go_meet;exact ⟨by rw [HN1.out]; simp_all; try (rw [← decide_not,decide_eq_decide]; omega),rfl⟩
     case rest =>
      obtain ⟨rfl,rfl⟩:=hcut
      go_upto_region 5 with fail
      by_cases h1:gk=1
      ·have HR2:Hid (R=(d12 && nT && nI)):=Lh (by rw [HR.out,h1]; simp)
       have y1:((gk:Int) == 1)=true:=by simp; omega
       clear h1 HR
       rcases HDX.out with ⟨rfl,n12,m12⟩ | ⟨rfl,n12,m12⟩ <;> clear HDX <;> cases nT <;> cases nI
       all_goals
        go_wp2
        go_ret;exact ⟨by refine Za rfl ?_; rw [HR2.out]; rfl,S.out.bel⟩
      by_cases h2:gk=2
      ·have HR2:Hid (R=(!d12 && nT && nI)):=Lh (by rw [HR.out,h2]; simp)
       have y1:((gk:Int) == 1)=false:=by simp; omega
       have y2:((gk:Int) == 2)=true:=by simp; omega
       clear h1 h2 HR
       rcases HDX.out with ⟨rfl,n12,m12⟩ | ⟨rfl,n12,m12⟩ <;> clear HDX <;> cases nT <;> cases nI
       all_goals
        go_wp2
        go_ret;exact ⟨by refine Za rfl ?_; rw [HR2.out]; rfl,S.out.bel⟩
      by_cases h3:gk=3
      ·have HR2:Hid (R=(!d12 && nT && fI)):=Lh (by rw [HR.out,h3]; simp)
       have y1:((gk:Int) == 1)=false:=by simp; omega
       have y2:((gk:Int) == 2)=false:=by simp; omega
       have y3:((gk:Int) == 3)=true:=by simp; omega
       clear h1 h2 h3 HR
       rcases HDX.out with ⟨rfl,n12,m12⟩ | ⟨rfl,n12,m12⟩ <;> clear HDX <;> cases nT
       all_goals
        go_wp2_with (go_at_call 83; (with_reducible refine (HI.out _ S.out.bel).mono ?_); rintro e2 w2 ⟨rfl,hb2⟩)
        go_ret
        first
         | exact ⟨by refine Za rfl ?_; rw [HR2.out]; rfl,S.out.bel⟩
         | exact ⟨by refine Za rfl ?_; rw [HR2.out]; rfl,S.out.bel.trans (hb2.mono S.out.bel.size)⟩
      by_cases h4:gk=4
      ·have HR2:Hid (R=(!d12 && nI && fT)):=Lh (by rw [HR.out,h4]; simp)
       have y1:((gk:Int) == 1)=false:=by simp; omega
       have y2:((gk:Int) == 2)=false:=by simp; omega
       have y3:((gk:Int) == 3)=false:=by simp; omega
       have y4:((gk:Int) == 4)=true:=by simp; omega
       clear h1 h2 h3 h4 HR
       rcases HDX.out with ⟨rfl,n12,m12⟩ | ⟨rfl,n12,m12⟩ <;> clear HDX <;> cases nI
       all_goals
        go_wp2_with (go_at_call 82; (with_reducible refine (HT.out _ S.out.bel).mono ?_); rintro e2 w2 ⟨rfl,hb2⟩)
        go_ret
        first
         | exact ⟨by refine Za rfl ?_; rw [HR2.out]; rfl,S.out.bel⟩
         | exact ⟨by refine Za rfl ?_; rw [HR2.out]; rfl,S.out.bel.trans (hb2.mono S.out.bel.size)⟩
      ·have HR2:Hid (R=false):=Lh (by rw [HR.out]; split <;> first | (exfalso; omega) | simp)
       have y1:((gk:Int) == 1)=false:=by simp; omega
       have y2:((gk:Int) == 2)=false:=by simp; omega
       have y3:((gk:Int) == 3)=false:=by simp; omega
       have y4:((gk:Int) == 4)=false:=by simp; omega
       clear h1 h2 h3 h4 HR
       go_wp2
       go_ret;exact ⟨by refine Za rfl ?_; rw [HR2.out],S.out.bel⟩
 ·have hm1:((mb:Int) == 1)=false:=by simp; omega
  have HR2:Hid (R=false):=Lh (by rw [HR.out]; simp [hm]);clear hm;go_enter Tryz.func85,Tryz.ntmps85
  go_wp2
  go_ret;exact ⟨by refine Za rfl ?_; rw [HR2.out],S.out.bel⟩
end Go.Proofs.YtjndhfcfcedheaaGreatDoor
