/- Texts that belong together: CH. -/
import Derived.Test.YtjndhfcfcedheaaGreatDoorHK4
import Derived.Test.YtjndhfcfcedheaaGreatDoorHK3
set_option linter.unusedVariables false
set_option linter.unusedSimpArgs false
set_option maxRecDepth 100000
set_option maxHeartbeats 16000000
namespace Go.Proofs.YtjndhfcfcedheaaGreatDoor
open Go.RowKit
theorem Zqh (e:KE) (w:World) (hn:ZfO e.n) (hv:Zy e.v) (hl:ZB e.l):Calls Tryz.prog 60 #[.agg e.cells] w (Zu (.bool (Zq e)) w):=by
 have HQ:Hid (Zq e=match e.kind with
  | 1=>decide (e.l.length=0∧e.oper=0∧e.tk=0∧e.v=0)
  | 2=>decide (e.l.length=0∧e.oper=0∧e.tk=0∧e.n=0∧0≤e.v∧e.v < 256)
  | 3=>decide (e.l.length=1∧e.oper=0∧e.tk=0∧e.n=0∧0≤e.v∧e.v < 256)
  | 4=>decide (e.l.length=1∧(23≤e.oper∧e.oper≤26)∧e.tk=0∧e.n=0∧e.v=0)
  | 5=>decide (e.l.length=2∧(1≤e.oper∧e.oper≤22)∧e.tk=0∧e.n=0∧e.v=0)
  | 6=>decide (e.l.length=1∧e.oper=0∧(1≤e.tk∧e.tk≤3)∧e.n=0∧e.v=0)
  | _=>false):=Lh rfl
 generalize Zq e=ans at *;obtain ⟨kind,oper,tk,num,v,A,c,l⟩:=e;simp only [KE.cells] at *
 obtain ⟨n,hn'⟩:∃ n,l.length=n:=⟨_,rfl⟩
 unfold ZB at hl;rw [hn'] at HQ hl ⊢;have hn2:n≤140737488355328:=hl;unfold ZfO at hn;unfold Zy at hv;clear hn' hl
 obtain ⟨K,hK⟩:∃ K:Int,(kind:Int)=K:=⟨_,rfl⟩
 obtain ⟨O,hO⟩:∃ K:Int,(oper:Int)=K:=⟨_,rfl⟩
 obtain ⟨T,hT⟩:∃ K:Int,(tk:Int)=K:=⟨_,rfl⟩
 rw [hK,hO,hT]
 obtain ⟨W0,hW0⟩:∃ W,w.alloc (.cells #[.int .u8 K,.int .u8 O,.int .u8 T,.int .i32 num,.int .i64 v,.slice A n c] 65)=W:=⟨_,rfl⟩
 have K0:Hid (Below w.heap.size w W0):=Lh (by rw [← hW0]; exact (Below.refl _ _).alloc (Nat.le_refl _) _)
 have b0:Blk W0 w.heap.size 65 #[.int .u8 K,.int .u8 O,.int .u8 T,.int .i32 num,.int .i64 v,.slice A n c]:=by rw [← hW0]; exact Blk.new _ _ _
 obtain ⟨c0,c1,c2,c3,c4,c5⟩:=b0.c6;simp at c0 c1 c2 c3 c4 c5;have hlt:=b0.lt;have HK:=Lh hK;have HO:=Lh hO;have HT:=Lh hT;clear b0 hK hO hT;go_enter Tryz.func60,Tryz.ntmps60;have HBL:Hid (∀ o:Obj,Below w.heap.size w (W0.alloc o)):=Lh fun o=>K0.out.alloc K0.out.size o
 by_cases hk1:K=1
 ·obtain rfl:kind=1:=by have:=HK.out; omega
  have HE:Hid (ans=decide (n=0∧oper=0∧tk=0∧v=0)):=HQ;clear HQ HK;subst hk1
  by_cases q0:v < 0
  ·have e1:ans=false:=by
    rw [HE.out];have g2:=HO.out;have g3:=HT.out;exact decide_eq_false (by omega)
   subst e1
   go_wp2
   go_ret;exact ⟨rfl,HBL.out _⟩
  by_cases q1:256≤v
  ·have e1:ans=false:=by
    rw [HE.out];have g2:=HO.out;have g3:=HT.out;exact decide_eq_false (by omega)
   subst e1
   go_wp2
   go_ret;exact ⟨rfl,HBL.out _⟩
  by_cases q2:¬ n=0
  ·have qn:((n:Int) == 0)=false:=by simp; omega
   have e1:ans=false:=by
    rw [HE.out];have g2:=HO.out;have g3:=HT.out;exact decide_eq_false (by omega)
   subst e1
   go_wp2
   go_ret;exact ⟨rfl,HBL.out _⟩
  obtain rfl:n=0:=by omega
  by_cases q3:¬ O=0
  ·have qb:(O == 0)=false:=by simp; omega
   have e1:ans=false:=by
    rw [HE.out];have g2:=HO.out;have g3:=HT.out;exact decide_eq_false (by omega)
   subst e1
   go_wp2
   go_ret;exact ⟨rfl,HBL.out _⟩
  obtain rfl:O=0:=by omega
  by_cases q4:¬ T=0
  ·have qb:(T == 0)=false:=by simp; omega
   have e1:ans=false:=by
    rw [HE.out];have g2:=HO.out;have g3:=HT.out;exact decide_eq_false (by omega)
   subst e1
   go_wp2
   go_ret;exact ⟨rfl,HBL.out _⟩
  obtain rfl:T=0:=by omega
  by_cases q5:¬ v=0
  ·have qb:(v == 0)=false:=by simp; omega
   have e1:ans=false:=by
    rw [HE.out];have g2:=HO.out;have g3:=HT.out;exact decide_eq_false (by omega)
   subst e1
   go_wp2
   go_ret;exact ⟨rfl,HBL.out _⟩
  obtain rfl:v=0:=by omega
  have e1:ans=true:=by
   rw [HE.out];have g2:=HO.out;have g3:=HT.out;exact decide_eq_true (by omega)
  subst e1
  go_wp2
  go_ret;exact ⟨rfl,HBL.out _⟩
 by_cases hk2:K=2
 ·obtain rfl:kind=2:=by have:=HK.out; omega
  have HE:Hid (ans=decide (n=0∧oper=0∧tk=0∧num=0∧0≤v∧v < 256)):=HQ;clear HQ HK;subst hk2
  by_cases q0:v < 0
  ·have e1:ans=false:=by
    rw [HE.out];have g2:=HO.out;have g3:=HT.out;exact decide_eq_false (by omega)
   subst e1
   go_wp2
   go_ret;exact ⟨rfl,HBL.out _⟩
  by_cases q1:256≤v
  ·have e1:ans=false:=by
    rw [HE.out];have g2:=HO.out;have g3:=HT.out;exact decide_eq_false (by omega)
   subst e1
   go_wp2
   go_ret;exact ⟨rfl,HBL.out _⟩
  by_cases q2:¬ n=0
  ·have qn:((n:Int) == 0)=false:=by simp; omega
   have e1:ans=false:=by
    rw [HE.out];have g2:=HO.out;have g3:=HT.out;exact decide_eq_false (by omega)
   subst e1
   go_wp2
   go_ret;exact ⟨rfl,HBL.out _⟩
  obtain rfl:n=0:=by omega
  by_cases q3:¬ O=0
  ·have qb:(O == 0)=false:=by simp; omega
   have e1:ans=false:=by
    rw [HE.out];have g2:=HO.out;have g3:=HT.out;exact decide_eq_false (by omega)
   subst e1
   go_wp2
   go_ret;exact ⟨rfl,HBL.out _⟩
  obtain rfl:O=0:=by omega
  by_cases q4:¬ T=0
  ·have qb:(T == 0)=false:=by simp; omega
   have e1:ans=false:=by
    rw [HE.out];have g2:=HO.out;have g3:=HT.out;exact decide_eq_false (by omega)
   subst e1
   go_wp2
   go_ret;exact ⟨rfl,HBL.out _⟩
  obtain rfl:T=0:=by omega
  by_cases q5:¬ num=0
  ·have qb:(num == 0)=false:=by simp; omega
   have e1:ans=false:=by
    rw [HE.out];have g2:=HO.out;have g3:=HT.out;exact decide_eq_false (by omega)
   subst e1
   go_wp2
   go_ret;exact ⟨rfl,HBL.out _⟩
  obtain rfl:num=0:=by omega
  have e1:ans=true:=by
   rw [HE.out];have g2:=HO.out;have g3:=HT.out;exact decide_eq_true (by omega)
  subst e1
  go_wp2
  go_ret;exact ⟨rfl,HBL.out _⟩
 by_cases hk3:K=3
 ·obtain rfl:kind=3:=by have:=HK.out; omega
  have HE:Hid (ans=decide (n=1∧oper=0∧tk=0∧num=0∧0≤v∧v < 256)):=HQ;clear HQ HK;subst hk3
  by_cases q0:v < 0
  ·have e1:ans=false:=by
    rw [HE.out];have g2:=HO.out;have g3:=HT.out;exact decide_eq_false (by omega)
   subst e1
   go_wp2
   go_ret;exact ⟨rfl,HBL.out _⟩
  by_cases q1:256≤v
  ·have e1:ans=false:=by
    rw [HE.out];have g2:=HO.out;have g3:=HT.out;exact decide_eq_false (by omega)
   subst e1
   go_wp2
   go_ret;exact ⟨rfl,HBL.out _⟩
  by_cases q2:¬ n=1
  ·have qn:((n:Int) == 1)=false:=by simp; omega
   have e1:ans=false:=by
    rw [HE.out];have g2:=HO.out;have g3:=HT.out;exact decide_eq_false (by omega)
   subst e1
   go_wp2
   go_ret;exact ⟨rfl,HBL.out _⟩
  obtain rfl:n=1:=by omega
  by_cases q3:¬ O=0
  ·have qb:(O == 0)=false:=by simp; omega
   have e1:ans=false:=by
    rw [HE.out];have g2:=HO.out;have g3:=HT.out;exact decide_eq_false (by omega)
   subst e1
   go_wp2
   go_ret;exact ⟨rfl,HBL.out _⟩
  obtain rfl:O=0:=by omega
  by_cases q4:¬ T=0
  ·have qb:(T == 0)=false:=by simp; omega
   have e1:ans=false:=by
    rw [HE.out];have g2:=HO.out;have g3:=HT.out;exact decide_eq_false (by omega)
   subst e1
   go_wp2
   go_ret;exact ⟨rfl,HBL.out _⟩
  obtain rfl:T=0:=by omega
  by_cases q5:¬ num=0
  ·have qb:(num == 0)=false:=by simp; omega
   have e1:ans=false:=by
    rw [HE.out];have g2:=HO.out;have g3:=HT.out;exact decide_eq_false (by omega)
   subst e1
   go_wp2
   go_ret;exact ⟨rfl,HBL.out _⟩
  obtain rfl:num=0:=by omega
  have e1:ans=true:=by
   rw [HE.out];have g2:=HO.out;have g3:=HT.out;exact decide_eq_true (by omega)
  subst e1
  go_wp2
  go_ret;exact ⟨rfl,HBL.out _⟩
 by_cases hk4:K=4
 ·obtain rfl:kind=4:=by have:=HK.out; omega
  have HE:Hid (ans=decide (n=1∧(23≤oper∧oper≤26)∧tk=0∧num=0∧v=0)):=HQ;clear HQ HK;subst hk4
  by_cases q0:O < 23
  ·have e1:ans=false:=by
    rw [HE.out];have g2:=HO.out;have g3:=HT.out;exact decide_eq_false (by omega)
   subst e1
   go_wp2
   go_ret;exact ⟨rfl,HBL.out _⟩
  by_cases q1:26 < O
  ·have e1:ans=false:=by
    rw [HE.out];have g2:=HO.out;have g3:=HT.out;exact decide_eq_false (by omega)
   subst e1
   go_wp2
   go_ret;exact ⟨rfl,HBL.out _⟩
  by_cases q2:v < 0
  ·have e1:ans=false:=by
    rw [HE.out];have g2:=HO.out;have g3:=HT.out;exact decide_eq_false (by omega)
   subst e1
   go_wp2
   go_ret;exact ⟨rfl,HBL.out _⟩
  by_cases q3:256≤v
  ·have e1:ans=false:=by
    rw [HE.out];have g2:=HO.out;have g3:=HT.out;exact decide_eq_false (by omega)
   subst e1
   go_wp2
   go_ret;exact ⟨rfl,HBL.out _⟩
  by_cases q4:¬ n=1
  ·have qn:((n:Int) == 1)=false:=by simp; omega
   have e1:ans=false:=by
    rw [HE.out];have g2:=HO.out;have g3:=HT.out;exact decide_eq_false (by omega)
   subst e1
   go_wp2
   go_ret;exact ⟨rfl,HBL.out _⟩
  obtain rfl:n=1:=by omega
  by_cases q5:¬ T=0
  ·have qb:(T == 0)=false:=by simp; omega
   have e1:ans=false:=by
    rw [HE.out];have g2:=HO.out;have g3:=HT.out;exact decide_eq_false (by omega)
   subst e1
   go_wp2
   go_ret;exact ⟨rfl,HBL.out _⟩
  obtain rfl:T=0:=by omega
  by_cases q6:¬ num=0
  ·have qb:(num == 0)=false:=by simp; omega
   have e1:ans=false:=by
    rw [HE.out];have g2:=HO.out;have g3:=HT.out;exact decide_eq_false (by omega)
   subst e1
   go_wp2
   go_ret;exact ⟨rfl,HBL.out _⟩
  obtain rfl:num=0:=by omega
  by_cases q7:¬ v=0
  ·have qb:(v == 0)=false:=by simp; omega
   have e1:ans=false:=by
    rw [HE.out];have g2:=HO.out;have g3:=HT.out;exact decide_eq_false (by omega)
   subst e1
   go_wp2
   go_ret;exact ⟨rfl,HBL.out _⟩
  obtain rfl:v=0:=by omega
  have e1:ans=true:=by
   rw [HE.out];have g2:=HO.out;have g3:=HT.out;exact decide_eq_true (by omega)
  subst e1
  go_wp2
  go_ret;exact ⟨rfl,HBL.out _⟩
 by_cases hk5:K=5
 ·obtain rfl:kind=5:=by have:=HK.out; omega
  have HE:Hid (ans=decide (n=2∧(1≤oper∧oper≤22)∧tk=0∧num=0∧v=0)):=HQ;clear HQ HK;subst hk5
  by_cases q0:O < 1
  ·have e1:ans=false:=by
    rw [HE.out];have g2:=HO.out;have g3:=HT.out;exact decide_eq_false (by omega)
   subst e1
   go_wp2
   go_ret;exact ⟨rfl,HBL.out _⟩
  by_cases q1:22 < O
  ·have e1:ans=false:=by
    rw [HE.out];have g2:=HO.out;have g3:=HT.out;exact decide_eq_false (by omega)
   subst e1
   go_wp2
   go_ret;exact ⟨rfl,HBL.out _⟩
  by_cases q2:v < 0
  ·have e1:ans=false:=by
    rw [HE.out];have g2:=HO.out;have g3:=HT.out;exact decide_eq_false (by omega)
   subst e1
   go_wp2
   go_ret;exact ⟨rfl,HBL.out _⟩
  by_cases q3:256≤v
  ·have e1:ans=false:=by
    rw [HE.out];have g2:=HO.out;have g3:=HT.out;exact decide_eq_false (by omega)
   subst e1
   go_wp2
   go_ret;exact ⟨rfl,HBL.out _⟩
  by_cases q4:¬ n=2
  ·have qn:((n:Int) == 2)=false:=by simp; omega
   have e1:ans=false:=by
    rw [HE.out];have g2:=HO.out;have g3:=HT.out;exact decide_eq_false (by omega)
   subst e1
   go_wp2
   go_ret;exact ⟨rfl,HBL.out _⟩
  obtain rfl:n=2:=by omega
  by_cases q5:¬ T=0
  ·have qb:(T == 0)=false:=by simp; omega
   have e1:ans=false:=by
    rw [HE.out];have g2:=HO.out;have g3:=HT.out;exact decide_eq_false (by omega)
   subst e1
   go_wp2
   go_ret;exact ⟨rfl,HBL.out _⟩
  obtain rfl:T=0:=by omega
  by_cases q6:¬ num=0
  ·have qb:(num == 0)=false:=by simp; omega
   have e1:ans=false:=by
    rw [HE.out];have g2:=HO.out;have g3:=HT.out;exact decide_eq_false (by omega)
   subst e1
   go_wp2
   go_ret;exact ⟨rfl,HBL.out _⟩
  obtain rfl:num=0:=by omega
  by_cases q7:¬ v=0
  ·have qb:(v == 0)=false:=by simp; omega
   have e1:ans=false:=by
    rw [HE.out];have g2:=HO.out;have g3:=HT.out;exact decide_eq_false (by omega)
   subst e1
   go_wp2
   go_ret;exact ⟨rfl,HBL.out _⟩
  obtain rfl:v=0:=by omega
  have e1:ans=true:=by
   rw [HE.out];have g2:=HO.out;have g3:=HT.out;exact decide_eq_true (by omega)
  subst e1
  go_wp2
  go_ret;exact ⟨rfl,HBL.out _⟩
 by_cases hk6:K=6
 ·obtain rfl:kind=6:=by have:=HK.out; omega
  have HE:Hid (ans=decide (n=1∧oper=0∧(1≤tk∧tk≤3)∧num=0∧v=0)):=HQ;clear HQ HK;subst hk6
  by_cases q0:T < 1
  ·have e1:ans=false:=by
    rw [HE.out];have g2:=HO.out;have g3:=HT.out;exact decide_eq_false (by omega)
   subst e1
   go_wp2
   go_ret;exact ⟨rfl,HBL.out _⟩
  by_cases q1:3 < T
  ·have e1:ans=false:=by
    rw [HE.out];have g2:=HO.out;have g3:=HT.out;exact decide_eq_false (by omega)
   subst e1
   go_wp2
   go_ret;exact ⟨rfl,HBL.out _⟩
  by_cases q2:v < 0
  ·have e1:ans=false:=by
    rw [HE.out];have g2:=HO.out;have g3:=HT.out;exact decide_eq_false (by omega)
   subst e1
   go_wp2
   go_ret;exact ⟨rfl,HBL.out _⟩
  by_cases q3:256≤v
  ·have e1:ans=false:=by
    rw [HE.out];have g2:=HO.out;have g3:=HT.out;exact decide_eq_false (by omega)
   subst e1
   go_wp2
   go_ret;exact ⟨rfl,HBL.out _⟩
  by_cases q4:¬ n=1
  ·have qn:((n:Int) == 1)=false:=by simp; omega
   have e1:ans=false:=by
    rw [HE.out];have g2:=HO.out;have g3:=HT.out;exact decide_eq_false (by omega)
   subst e1
   go_wp2
   go_ret;exact ⟨rfl,HBL.out _⟩
  obtain rfl:n=1:=by omega
  by_cases q5:¬ O=0
  ·have qb:(O == 0)=false:=by simp; omega
   have e1:ans=false:=by
    rw [HE.out];have g2:=HO.out;have g3:=HT.out;exact decide_eq_false (by omega)
   subst e1
   go_wp2
   go_ret;exact ⟨rfl,HBL.out _⟩
  obtain rfl:O=0:=by omega
  by_cases q6:¬ num=0
  ·have qb:(num == 0)=false:=by simp; omega
   have e1:ans=false:=by
    rw [HE.out];have g2:=HO.out;have g3:=HT.out;exact decide_eq_false (by omega)
   subst e1
   go_wp2
   go_ret;exact ⟨rfl,HBL.out _⟩
  obtain rfl:num=0:=by omega
  by_cases q7:¬ v=0
  ·have qb:(v == 0)=false:=by simp; omega
   have e1:ans=false:=by
    rw [HE.out];have g2:=HO.out;have g3:=HT.out;exact decide_eq_false (by omega)
   subst e1
   go_wp2
   go_ret;exact ⟨rfl,HBL.out _⟩
  obtain rfl:v=0:=by omega
  have e1:ans=true:=by
   rw [HE.out];have g2:=HO.out;have g3:=HT.out;exact decide_eq_true (by omega)
  subst e1
  go_wp2
  go_ret;exact ⟨rfl,HBL.out _⟩
 have e1:ans=false:=by
  rw [HQ.out];have g1:=HK.out
  split <;> first | rfl | (exfalso; omega)
 subst e1
 go_wp2
 go_ret;exact ⟨rfl,HBL.out _⟩
end Go.Proofs.YtjndhfcfcedheaaGreatDoor
