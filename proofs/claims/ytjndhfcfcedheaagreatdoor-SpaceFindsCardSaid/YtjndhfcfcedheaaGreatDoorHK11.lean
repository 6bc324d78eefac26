/- Texts that belong together: CK CL HQ. -/
import Derived.Test.YtjndhfcfcedheaaGreatDoorHK10
import Derived.Test.YtjndhfcfcedheaaGreatDoorHK4
import Derived.Test.YtjndhfcfcedheaaGreatDoorHK1
import Derived.Deep.RegionHeld
set_option linter.unusedVariables false
set_option linter.unusedSimpArgs false
set_option maxRecDepth 100000
set_option maxHeartbeats 16000000
namespace Go.Proofs.YtjndhfcfcedheaaGreatDoor
open Go.RowKit
structure ZdF where
 ok:Bool
 safe:Bool
 regs:Nat
 temps:Nat
def ZdF.cells (x:ZdF):Array Value:=#[.bool x.ok,.bool x.safe,.int .i64 x.regs,.int .i64 x.temps]
def Zgz (l:List ZdF):List Value:=l.flatMap fun x=>x.cells.toList
def Zbp (o:Nat):Bool:=decide (6≤o∧o≠23)
def Zae:Nat:=0
def Zgv:Array Value:=((List.range 27).map fun o=>Value.bool (Zbp o)).toArray
def ZP (w:World):Prop:=∃ t fr,w.heap[Zae]? = some (.cells Zgv t fr)
theorem ZP.cell {w:World} (h:ZP w) {i:Nat} (hi:i < 27):w.cell? ⟨Zae,i,none⟩=some (.bool (Zbp i)):=by
 obtain ⟨t,fr,h⟩:=h;rw [cell_of_row w Zae i Zgv t fr h]
 simp [Zgv,hi]
theorem ZP.lt {w:World} (h:ZP w):Zae < w.heap.size:=by
 obtain ⟨t,fr,h⟩:=h;exact (Array.getElem?_eq_some_iff.1 h).1
theorem ZP.below {w w':World} {B:Nat} (h:ZP w) (hb:Below B w w') (hB:Zae < B):ZP w':=by
 obtain ⟨t,fr,h⟩:=h;exact ⟨t,fr,(hb.block _ hB).trans h⟩
def ZfN (k o tk:Nat):List ZdF→ZdF
 | []=>⟨true,true,1,0⟩
 | [n]=>⟨n.ok,n.safe && (Ze7 k o tk || (k == 4 && Zbp o)),if Ze7 k o tk then n.regs else max n.regs 2,n.temps⟩
 | a :: b :: _ =>
   if o=20∨o=21∨a.regs≠b.regs then ⟨true,a.safe && b.safe && Zbp o,max a.regs b.regs,max a.temps b.temps⟩
   else if a.regs < 3 then ⟨true,a.safe && b.safe && Zbp o,max a.regs b.regs+1,max a.temps b.temps⟩
   else ⟨true,a.safe && b.safe && Zbp o,max a.regs b.regs,max b.temps (a.temps+1)⟩
theorem ZfK:(Tryz.prog.info? 102).map (·.size)=some 4:=by kernel_rfl
theorem Zby {fn:Func} {p:Tmp} (h:fn.results=#[.cell p 102]) (tmps:Array Value) (w W:World) (g:Nat) (r:ZdF) (hp:tmps.getD p undef = .pointer (some ⟨g,0,none⟩)) (hB:Blk W g 102 r.cells) (hk:Below w.heap.size w W) :
  bodyPost Tryz.prog fn (Zu (.agg r.cells) w) Exit.ret { tmps:=tmps,defers:=[] } W :=
 bodyPost_ret (v:=.agg r.cells) (results_cell_row h _ _ g _ _ (0,0) _ hp hB Tryz.underlying102 rfl ZfK) rfl ⟨rfl,hk⟩
theorem Zql (e:KE) (A:Option Addr) (c:Nat) (w:World) :
  Calls Tryz.prog 61 #[.agg e.cells,.slice A 0 c] w (Zu (.agg (ZfN e.kind e.oper e.tk []).cells) w):=by
 simp only [KE.cells];go_enter Tryz.func61,Tryz.ntmps61
 go_wp2
 exact Zby rfl _ _ _ (w.heap.size+1) ⟨true,true,1,0⟩ rfl (Z5 _ _ _ _) (ZeP _ _ _)
def ZaU:Array Value:=#[.bool false,.bool false,.int .i64 0,.int .i64 0]
theorem lay3n (w:World) (a b c:Array Value) (t u v:TypeId):Below w.heap.size w (((w.alloc (.cells a t)).alloc (.cells b u)).alloc (.cells c v))∧Blk (((w.alloc (.cells a t)).alloc (.cells b u)).alloc (.cells c v)) w.heap.size t a ∧
  Blk (((w.alloc (.cells a t)).alloc (.cells b u)).alloc (.cells c v)) (w.heap.size+1) u b∧Blk (((w.alloc (.cells a t)).alloc (.cells b u)).alloc (.cells c v)) (w.heap.size+2) v c:=by
 refine ⟨(ZeP w _ _).alloc (by simp; omega) _,((Blk.new w t a).alloc _).alloc _,(Z5 w _ u b).alloc _,?_⟩;have:=Z5 (w.alloc (.cells a t)) (.cells b u) v c
 simpa using this
theorem Zei {w W:World} (q:ZdF) (hB:Blk W (w.heap.size+1) 102 ZaU) (hk:Below w.heap.size w W) :
  Blk ((((W.setCell ⟨w.heap.size+1,0,none⟩ (.bool q.ok)).setCell ⟨w.heap.size+1,1,none⟩ (.bool q.safe)).setCell ⟨w.heap.size+1,2,none⟩ (.int .i64 q.regs)).setCell ⟨w.heap.size+1,3,none⟩ (.int .i64 q.temps)) (w.heap.size+1) 102 q.cells ∧
   Below w.heap.size w ((((W.setCell ⟨w.heap.size+1,0,none⟩ (.bool q.ok)).setCell ⟨w.heap.size+1,1,none⟩ (.bool q.safe)).setCell ⟨w.heap.size+1,2,none⟩ (.int .i64 q.regs)).setCell ⟨w.heap.size+1,3,none⟩ (.int .i64 q.temps)) :=
 ⟨((((hB.set_ 0 _).set_ 1 _).set_ 2 _).set_ 3 _),(((hk.setCell (Nat.le_succ _) _).setCell (Nat.le_succ _) _).setCell (Nat.le_succ _) _).setCell (Nat.le_succ _) _⟩
theorem ZgY {w W1:World} (q:ZdF) (s:Bool) (hs:s=q.safe) (hB:Blk W1 (w.heap.size+1) 102 ZaU) (hk:Below w.heap.size w W1) (fn:Func) (p:Tmp) (h:fn.results=#[.cell p 102]) (tmps:Array Value) (o:Obj) (u:Value) (hp:tmps.getD p undef = .pointer (some ⟨w.heap.size+1,0,none⟩)) :
  bodyPost Tryz.prog fn (Zu (.agg #[.bool q.ok,.bool q.safe,.int .i64 q.regs,.int .i64 q.temps]) w) Exit.ret { tmps:=tmps,defers:=[] }
   (((((((W1.setCell ⟨w.heap.size+1+1,2,none⟩ u).setCell ⟨w.heap.size+1+1,1,none⟩ (.bool s)).setCell ⟨w.heap.size+1,0,none⟩ (.bool q.ok)).setCell ⟨w.heap.size+1,1,none⟩ (.bool s)).setCell ⟨w.heap.size+1,2,none⟩ (.int .i64 q.regs)).setCell ⟨w.heap.size+1,3,none⟩ (.int .i64 q.temps)).alloc o):=by
 subst hs
 have n1:w.heap.size+1≠w.heap.size+1+1:=by omega
 have n2:w.heap.size≤w.heap.size+1+1:=by omega
 obtain ⟨x1,x2⟩:=Zei (w:=w) (W:=(W1.setCell ⟨w.heap.size+1+1,2,none⟩ u).setCell ⟨w.heap.size+1+1,1,none⟩ (.bool q.safe)) q ((hB.far n1 _).far n1 _) ((hk.setCell n2 _).setCell n2 _);exact Zby h _ w _ (w.heap.size+1) q hp (x1.alloc _) (x2.alloc x2.size _)
theorem Zny (k o tk:Nat):Ze7 k o tk=((k == 4 && (o == 25 || o == 26)) || (k == 6 && tk == 1)):=rfl
theorem Zqk (e:KE) (n:ZdF) (hn:n.regs≤1000∧n.temps≤1000) (ho:e.kind=4→e.oper < 27) (A:Option Addr) (c:Nat) (w:World) (hr:Zo w w.heap.size 4 A 1 (Zgz [n])) (hq:ZP w) :
  Calls Tryz.prog 61 #[.agg e.cells,.slice A 1 c] w (Zu (.agg (ZfN e.kind e.oper e.tk [n]).cells) w):=by
 obtain ⟨b,off,rfl,hb,hc⟩:=hr.addr (by omega) (by omega);have r0:=hc 0 _ rfl;have r1:=hc 1 _ rfl;have r2:=hc 2 _ rfl;have r3:=hc 3 _ rfl;rw [Nat.add_zero] at r0;clear hc hr;obtain ⟨nok,nsafe,nregs,ntemps⟩:=n;obtain ⟨k,o,t,num,v,A',c',l⟩:=e;simp only [KE.cells]
 simp only at hn ho r0 r1 r2 r3
 obtain ⟨R,hR⟩:∃ R,ZfN k o t [⟨nok,nsafe,nregs,ntemps⟩]=R:=⟨_,rfl⟩
 simp only [hR];have HRJ:Hid (R=⟨nok,nsafe && (Ze7 k o t || (k == 4 && Zbp o)),if Ze7 k o t then nregs else max nregs 2,ntemps⟩):=Lh (by rw [← hR]; rfl);have HEY:=Lh (Zny k o t);clear hR;simp only [ZdF.cells]
 obtain ⟨K,hK⟩:∃ K:Int,(k:Int)=K:=⟨_,rfl⟩
 obtain ⟨O,hO⟩:∃ K:Int,(o:Int)=K:=⟨_,rfl⟩
 obtain ⟨T,hT⟩:∃ K:Int,(t:Int)=K:=⟨_,rfl⟩
 rw [hK,hO,hT]
 obtain ⟨W1,hW1⟩:∃ W,((w.alloc (.cells #[.int .u8 K,.int .u8 O,.int .u8 T,.int .i32 num,.int .i64 v,.slice A' l.length c'] 65)).alloc (.cells ZaU 102)).alloc (.cells #[.bool nok,.bool nsafe,.int .i64 nregs,.int .i64 ntemps] 102)=W:=⟨_,rfl⟩
 obtain ⟨y1,y2,y3,y4⟩:=lay3n w #[.int .u8 K,.int .u8 O,.int .u8 T,.int .i32 num,.int .i64 v,.slice A' l.length c'] ZaU #[.bool nok,.bool nsafe,.int .i64 nregs,.int .i64 ntemps] 65 102 102;rw [hW1] at y1 y2 y3 y4;have HK1:=Lh y1;have HYD:=Lh y3;have HYN:=Lh y4;have HQ1:Hid (ZP W1):=Lh (hq.below y1 hq.lt);have hql:Zae < W1.heap.size:=HQ1.out.lt;have hqw:Zae < w.heap.size:=hq.lt;simp only [ZaU] at y3 hW1;obtain ⟨e0,e1,e2,e3,e4,e5⟩:=y2.c6;simp at e0 e1 e2 e3 e4 e5;obtain ⟨d0,d1,d2,d3⟩:=y3.c4;simp at d0 d1 d2 d3;obtain ⟨f0,f1,f2,f3⟩:=y3.z4;obtain ⟨x0,x1,x2,x3⟩:=y4.c4;simp at x0 x1 x2 x3;obtain ⟨g0,g1,g2,g3⟩:=y4.z4;have z2:=y2.lt;have z3:=y3.lt;have z4:=y4.lt;clear y1 y2 y3 y4 hq;have HKK:=Lh hK;have HOO:=Lh hO;have HTT:=Lh hT;have HO27:=Lh ho;clear hK hO hT ho
 have HT:Hid (∀ w':World,Calls Tryz.prog 78 #[.int .i64 nregs,.slice (some ⟨w'.heap.size,0,none⟩) 1 1] (w'.alloc (.cells #[.int .i64 2] 3)) (ZqS (.int .i64 ((max nregs 2:Nat):Int)) (w'.alloc (.cells #[.int .i64 2] 3)))):=Lh fun w'=>by
  have hin:Zbf (w'.alloc (.cells #[.int .i64 2] 3)) (w'.heap.size+1) (some ⟨w'.heap.size,0,none⟩) [2]:=by
   refine ⟨by simp [ZB],⟨by simp [ZO],fun _=>⟨_,rfl,by simp,fun j u hu=>?_⟩⟩,by simp [Zy]⟩
   have hj:j=0:=by have:=(List.getElem?_eq_some_iff.1 hu).1; simp [ZO] at this; omega
   subst hj;rw [Addr.add_lit,(Blk.new w' _ _).cell]
   simpa [ZO] using hu
  have h1:=dTop nregs (some ⟨w'.heap.size,0,none⟩) 1 [2] _ _ hin
  have h2:Zjx (nregs:Int) [2]=((max nregs 2:Nat):Int):=by simp [Zjx]; omega
  rw [h2] at h1;exact h1
 go_enter Tryz.func61,Tryz.ntmps61
 by_cases h4:K=4
 ·have hk4:k=4:=by have:=HKK.out; omega
  subst h4
  by_cases h25:O=25
  ·subst h25
   have eR:R=⟨nok,nsafe,nregs,ntemps⟩:=by
    have h0:=HKK.out;have h1:=HOO.out;have h2:=HTT.out;rw [HRJ.out,HEY.out]
    simp [show k=4 by omega,show o=25 by omega]
   subst eR
   cases nsafe
   all_goals
    go_wp2
    obtain ⟨x1,x2⟩:=Zei (w:=w) (W:=W1.setCell ⟨w.heap.size+2,1,none⟩ _) ⟨nok,_,nregs,ntemps⟩ (HYD.out.far (by simp) _) (HK1.out.setCell (by simp) _);exact Zby rfl _ w _ (w.heap.size+1) _ rfl x1 x2
  by_cases h26:O=26
  ·subst h26
   have eR:R=⟨nok,nsafe,nregs,ntemps⟩:=by
    have h0:=HKK.out;have h1:=HOO.out;have h2:=HTT.out;rw [HRJ.out,HEY.out]
    simp [show k=4 by omega,show o=26 by omega]
   subst eR
   cases nsafe
   all_goals
    go_wp2
    obtain ⟨x1,x2⟩:=Zei (w:=w) (W:=W1.setCell ⟨w.heap.size+2,1,none⟩ _) ⟨nok,_,nregs,ntemps⟩ (HYD.out.far (by simp) _) (HK1.out.setCell (by simp) _);exact Zby rfl _ w _ (w.heap.size+1) _ rfl x1 x2
  have ho27:=HO27.out hk4;have hqc:=HQ1.out.cell ho27;simp only [Zae] at hqc hql hqw;obtain rfl:(o:Int)=O:=HOO.out
  have hoI:(o:Int) < 27:=by omega
  have b25:((o:Int) == 25)=false:=by simp; omega
  have b26:((o:Int) == 26)=false:=by simp; omega
  generalize hqb:Zbp o=qb at *
  have eR:R=⟨nok,nsafe && qb,max nregs 2,ntemps⟩:=by
   have h0:=HKK.out;have h1:=HOO.out;have h2:=HTT.out;rw [HRJ.out,HEY.out]
   simp [show k=4 by omega,show (o == 25)=false by simp; omega,show (o == 26)=false by simp; omega,hqb]
  subst eR
  cases nsafe
  all_goals
   go_wp2_with first
    | (go_at_call 78; (with_reducible refine (HT.out _).mono ?_); rintro e w1 ⟨rfl,rfl⟩)
   exact ZgY ⟨nok,_,max nregs 2,ntemps⟩ _ rfl HYD.out HK1.out _ _ rfl _ _ _ rfl
 by_cases h6:K=6
 ·subst h6
  by_cases ht:T=1
  ·subst ht
   have eR:R=⟨nok,nsafe,nregs,ntemps⟩:=by
    have h0:=HKK.out;have h1:=HOO.out;have h2:=HTT.out;rw [HRJ.out,HEY.out]
    simp [show k=6 by omega,show t=1 by omega]
   subst eR
   cases nsafe
   all_goals
    go_wp2
    obtain ⟨x1,x2⟩:=Zei (w:=w) (W:=W1.setCell ⟨w.heap.size+2,1,none⟩ _) ⟨nok,_,nregs,ntemps⟩ (HYD.out.far (by simp) _) (HK1.out.setCell (by simp) _);exact Zby rfl _ w _ (w.heap.size+1) _ rfl x1 x2
  have eR:R=⟨nok,false,max nregs 2,ntemps⟩:=by
   have h0:=HKK.out;have h1:=HOO.out;have h2:=HTT.out;rw [HRJ.out,HEY.out]
   simp [show k=6 by omega,show (t == 1)=false by simp; omega]
  subst eR
  have t1:(T == 1)=false:=by simpa using ht
  cases nsafe
  all_goals
   go_wp2_with first
    | (go_at_call 78; (with_reducible refine (HT.out _).mono ?_); rintro e w1 ⟨rfl,rfl⟩)
   exact ZgY ⟨nok,_,max nregs 2,ntemps⟩ _ rfl HYD.out HK1.out _ _ rfl _ _ _ rfl
 have eR:R=⟨nok,false,max nregs 2,ntemps⟩:=by
  have h0:=HKK.out;have h1:=HOO.out;have h2:=HTT.out;rw [HRJ.out,HEY.out]
  simp [show (k == 6)=false by simp; omega,show (k == 4)=false by simp; omega]
 subst eR
 have k4:(K == 4)=false:=by simpa using h4
 have k6:(K == 6)=false:=by simpa using h6
 cases nsafe
 all_goals
  go_wp2_with first
   | (go_at_call 78; (with_reducible refine (HT.out _).mono ?_); rintro e w1 ⟨rfl,rfl⟩)
  exact ZgY ⟨nok,_,max nregs 2,ntemps⟩ _ rfl HYD.out HK1.out _ _ rfl _ _ _ rfl
def Zce (e:KE):ZdF:=⟨true,ZdA e,ZQ e,ZT e⟩
theorem ZeF {e:KE} (h:e.l=[]):ZQ e=1∧ZT e=0∧ZdA e=true:=by
 obtain ⟨k,o,t,n,v,A,c,l⟩:=e
 simp only at h
 subst h;exact ⟨by rw [ZQ],by rw [ZT],by rw [ZdA]⟩
theorem ZeE {e a:KE} (h:e.l=[a]):ZQ e=(if Ze7 e.kind e.oper e.tk then ZQ a else max (ZQ a) 2)∧ZT e=ZT a∧ZdA e=(ZdA a && (Ze7 e.kind e.oper e.tk || (e.kind == 4 && e.oper != 23))):=by
 obtain ⟨k,o,t,n,v,A,c,l⟩:=e
 simp only at h
 subst h;exact ⟨by rw [ZQ],by rw [ZT],by rw [ZdA]⟩
theorem ZeD {e a b:KE} {r:List KE} (h:e.l=a :: b :: r):ZQ e=(if e.oper≠20∧e.oper≠21∧ZQ a=ZQ b then min (ZQ a+1) 3 else max (ZQ a) (ZQ b)) ∧
  ZT e=(if e.oper≠20∧e.oper≠21∧ZQ a=3∧ZQ b=3 then max (ZT b) (ZT a+1) else max (ZT a) (ZT b))∧ZdA e=(ZdA a && ZdA b && decide (6≤e.oper)):=by
 obtain ⟨k,o,t,n,v,A,c,l⟩:=e
 simp only at h
 subst h;exact ⟨by rw [ZQ],by rw [ZT],by rw [ZdA]⟩
theorem ZbR (e:KE):1≤ZQ e∧ZQ e≤3:=by
 induction e using KE.ind with
 | h e ih =>
   match hl:e.l with
   | []=>rw [(ZeF hl).1]; omega
   | [a] =>
     have:=ih a (by rw [hl]; simp);rw [(ZeE hl).1]
     split <;> omega
   | a :: b :: r =>
     have:=ih a (by rw [hl]; simp);have:=ih b (by rw [hl]; simp);rw [(ZeD hl).1]
     split <;> omega
theorem Zkt (e:KE):∀ {inside left r:Nat},e.l.length≤2→(∀ x∈e.l,Zq x=true)→ZU inside left e=some r→ZT e+r+1≤left:=by
 induction e using KE.ind with
 | h e ih =>
   intro inside left r h2 hf hr
   have hx:∀ x∈e.l,Zq x=true→x.l.length≤2:=fun x _ h=>by
    unfold Zq at h
    split at h <;> first | (have h:=of_decide_eq_true h; omega) | cases h
   have hall:=(KE.all_iff.1 (ZfA e hr)).2;have hy:∀ x∈e.l,∀ y∈x.l,Zq y=true:=fun x hx y hy=>(KE.all_iff.1 ((KE.all_iff.1 (hall x hx)).2 y hy)).1;rw [Zci] at hr
   split at hr
   ·cases hr
   rename_i hc
   have h0:left≠0:=by intro h; subst h; simp at hc
   match hl:e.l with
   | [] =>
     rw [hl,Z8] at hr
     injection hr with hr
     rw [(ZeF hl).2.1]; omega
   | [a] =>
     rw [hl,Z8] at hr
     cases ha:ZU (inside+1) (left - 1) a with
     | none=>rw [ha] at hr; cases hr
     | some r1 =>
       rw [ha] at hr;simp only [Z8] at hr
       injection hr with hr
       have ma:a∈e.l:=by rw [hl]; simp
       have:=ih a ma (hx a ma (hf a ma)) (hy a ma) ha;rw [(ZeE hl).2.1]; omega
   | [a,b] =>
     rw [hl,Z8] at hr
     cases ha:ZU (inside+1) (left - 1) a with
     | none=>rw [ha] at hr; cases hr
     | some r1 =>
       rw [ha] at hr;simp only [Z8] at hr
       cases hb:ZU (inside+1) r1 b with
       | none=>rw [hb] at hr; cases hr
       | some r2 =>
         rw [hb] at hr
         simp only at hr
         injection hr with hr
         have ma:a∈e.l:=by rw [hl]; simp
         have mb:b∈e.l:=by rw [hl]; simp
         have h1:=ih a ma (hx a ma (hf a ma)) (hy a ma) ha;have h2:=ih b mb (hx b mb (hf b mb)) (hy b mb) hb;rw [(ZeD hl).2.1]
         split <;> omega
   | a :: b :: c :: q=>rw [hl] at h2; simp at h2
theorem Zbv {e:KE} (h:Zq e=true):e.l.length≤2∧(e.l.length=1→e.kind=4→23≤e.oper∧e.oper≤26)∧(e.l.length=2→e.kind=5∧1≤e.oper∧e.oper≤22):=by
 unfold Zq at h
 split at h <;> first | (have h:=of_decide_eq_true h; exact ⟨by omega,fun h1 h2=>by omega,fun h1=>by omega⟩) | cases h
theorem Zgn {e:KE} {inside left r:Nat} (h:ZU inside left e=some r):ZT e+r+1≤left:=by
 have hall:=ZfA e h;refine Zkt e (Zbv (KE.all_iff.1 hall).1).1 (fun x hx=>(KE.all_iff.1 ((KE.all_iff.1 hall).2 x hx)).1) h
theorem ZpY {e:KE} (h:e.l=[]):ZfN e.kind e.oper e.tk []=Zce e:=by
 obtain ⟨h1,h2,h3⟩:=ZeF h
 simp [ZfN,Zce,h1,h2,h3]
theorem ZpX {e a:KE} (hf:Zq e=true) (h:e.l=[a]):ZfN e.kind e.oper e.tk [Zce a]=Zce e:=by
 obtain ⟨h1,h2,h3⟩:=ZeE h;have h4:=(Zbv hf).2.1 (by rw [h]; rfl)
 have hq:(e.kind == 4 && Zbp e.oper)=(e.kind == 4 && e.oper != 23):=by
  by_cases hk:e.kind=4
  ·have:=h4 hk
   have e1:Zbp e.oper=(e.oper != 23):=by
    rw [Bool.eq_iff_iff]; simp [Zbp]; omega
   rw [e1]
  ·rw [beq_eq_false_iff_ne.2 hk]; rfl
 simp only [ZfN,Zce,h1,h2,h3,hq]
theorem ZpW {e a b:KE} (hf:Zq e=true) (h:e.l=[a,b]):ZfN e.kind e.oper e.tk [Zce a,Zce b]=Zce e:=by
 obtain ⟨h1,h2,h3⟩:=ZeD h;have h4:=(Zbv hf).2.2 (by rw [h]; rfl);have ha:=ZbR a;have hb:=ZbR b
 have e1:Zbp e.oper=decide (6≤e.oper):=by
  rw [Bool.eq_iff_iff]; simp [Zbp]; omega
 simp only [ZfN,Zce,h1,h2,h3,e1]
 by_cases h20:e.oper=20∨e.oper=21
 ·rw [if_pos (by omega),if_neg (by omega),if_neg (by omega)]
 by_cases he:ZQ a=ZQ b
 ·rw [if_neg (by omega)]
  by_cases h3:ZQ a < 3
  ·rw [if_pos h3,if_pos (by omega),if_neg (by omega)]
   congr 1; omega
  ·rw [if_neg h3,if_pos (by omega),if_pos (by omega)]
   congr 1; omega
 ·rw [if_pos (by omega),if_neg (by omega),if_neg (by omega)]
section
section
variable {P:Program} {ops:Array Oper} {Q:Exit→Act→World→Prop} {S:World→Prop}
def ZgU (P:Program) (ops:Array Oper) (S:World→Prop) (K:Act→Prop):List Oper→Act→Prop
 | [],a=>K a
 | o :: T,a=>∃ v,YieldsIf P ops S o v a∧ZgU P ops S K T (a.put o.dst v)
theorem Zc {K:Act→Prop} {o:Oper} {T:List Oper} {a:Act} {v:Value} (hw:Region.wanted o (yielded ops a.tmps)=true) (hy:∀ w,S w→(execOp a.eval o).run P w = .ok (.value v) w) (h:ZgU P ops S K T (a.put o.dst v)):ZgU P ops S K (o :: T) a :=
 ⟨v,.inl ⟨hw,hy⟩,h⟩
theorem Zbi {K:Act→Prop} {o:Oper} {T:List Oper} {a:Act} (v:Value) (hy:YieldsIf P ops S o v a) (h:ZgU P ops S K T (a.put o.dst v)):ZgU P ops S K (o :: T) a :=
 ⟨v,hy,h⟩
theorem Zco {K:Act→Prop} {a:Act} (h:K a):ZgU P ops S K [] a:=h
def Zhl (ops:Array Oper):List Nat→Array Bool→Bool
 | [],_=>true
 | i :: T,listed=>Region.free .any ops listed i && (Region.ready .any ops listed).contains i && Zhl ops T (listed.setIfInBounds i true)
def ZgZ:List Nat→Array Bool→Array Bool
 | [],l=>l
 | i :: T,l=>ZgZ T (l.setIfInBounds i true)
theorem ZcY (hs:Region.noSelect ops=true) (hQ:∀ c a d v w,Q (.panic c) (a.put d v) w→Q (.panic c) a w) {w:World} (hS:S w):∀ (T:List Nat) (fuel:Nat) (listed:Array Bool) (a:Act),Zhl ops T listed=true →
  ZgU P ops S (fun a'=>wpAnyH P .any ops Q S fuel (ZgZ T listed) a' w) (T.filterMap (ops[·]?)) a→wpAnyH P .any ops Q S (fuel+T.length) listed a w
 | [],fuel,listed,a,_,h=>h
 | i :: T,fuel,listed,a,hB,h=>by
   simp only [Zhl,Bool.and_eq_true] at hB;obtain ⟨⟨hf,hr⟩,hB⟩:=hB;obtain ⟨-,o,ho,-⟩:=mem_ready.1 (List.contains_iff_mem.1 hr);rw [List.filterMap_cons,ho] at h;obtain ⟨v,hy,h2⟩:=h;rw [List.length_cons,← Nat.add_assoc];exact wpAnyH_take ho hs hf hr (fun c a' w' h'=>hQ c a' _ _ w' h') hy hS (ZcY hs hQ hS T fuel (listed.setIfInBounds i true) (a.put o.dst v) hB h2)
theorem ZaV {id:Nat} {a:Act} {w:World} (S:World→Prop) (T:List Nat) (fuel:Nat) {listed:Array Bool} (hm:P.follows .mixedOrders=true) (hs:Region.noSelect ops=true) (hT:Zhl ops T (Array.replicate ops.size false)=true)
  (hl:ZgZ T (Array.replicate ops.size false)=listed) (hfu:ops.size=fuel+T.length) (hQ:∀ c a d v w,Q (.panic c) (a.put d v) w→Q (.panic c) a w) (hS:S w.drew)
  (h:∀ R:Act→Prop,(∀ a',wpAnyH P .any ops Q S fuel listed a' w.drew→R a')→ZgU P ops S R (T.filterMap (ops[·]?)) a):(Code.region id ops true).wp P Q a w:=by
 refine wp_region_held (S:=S) hm ?_;subst hl;have h2:=ZcY (Q:=Q) hs hQ hS T fuel (Array.replicate ops.size false) a hT (h _ fun _ h=>h);rw [← hfu] at h2;exact h2
end
end
end Go.Proofs.YtjndhfcfcedheaaGreatDoor
