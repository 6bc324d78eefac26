/- Texts that belong together: KRN KRO KRP KRQ. -/
import Derived.Test.YtjndhfcfcedheaaGreatDoorHK31
import Derived.Test.YtjndhfcfcedheaaGreatDoorHK3
set_option linter.unusedVariables false
set_option linter.unusedSimpArgs false
set_option maxRecDepth 100000
set_option maxHeartbeats 16000000
namespace Go.Proofs.YtjndhfcfcedheaaGreatDoor
open Go.RowKit
def Zke (vs:List ZZ) (t:KPl) (e:KE):Bool:=(if t.v < 0 then false else match vs[t.v.toNat]? with
  | none=>false
  | some x=>Zai vs t x.kind && Z6 vs e x.kind)
theorem Zes (vs:List ZZ) (t:KPl) (ts:List KPl) (e:KE) (es:List KE):Zab vs (t :: ts) (e :: es)=(Zke vs t e && Zab vs ts es):=rfl
theorem Zdl (vs:List ZZ):∀ (ts:List KPl) (es:List KE),ts.length=es.length→Zab vs ts es=(ts.zip es).all (fun x=>Zke vs x.1 x.2)
 | [],[],_=>rfl
 | [],_ :: _,h=>by simp at h
 | _ :: _,[],h=>by simp at h
 | t :: ts,e :: es,h=>by
   rw [Zes,Zdl vs ts es (by simpa using h),List.zip_cons_cons,List.all_cons]
theorem Zdm (vs:List ZZ):∀ (ts:List KPl) (es:List KE),ts.length≠es.length→Zab vs ts es=false
 | [],[],h=>absurd rfl h
 | [],_ :: _,_=>rfl
 | _ :: _,[],_=>rfl
 | t :: ts,e :: es,h=>by
   rw [Zes,Zdm vs ts es (by simpa using h),Bool.and_false]
theorem Zer {vs:List ZZ} {ts:List KPl} {es:List KE} (hl:ts.length=es.length) {j:Nat} {t:KPl} {e:KE} (ht:ts[j]? = some t) (he:es[j]? = some e) (ha:((ts.zip es).take j).all (fun x=>Zke vs x.1 x.2)=true) :
  (Zke vs t e=false→Zab vs ts es=false)∧(Zke vs t e=true→((ts.zip es).take (j+1)).all (fun x=>Zke vs x.1 x.2)=true):=by
 have hz:(ts.zip es)[j]? = some (t,e):=by rw [List.getElem?_zip_eq_some]; exact ⟨ht,he⟩
 refine ⟨fun hf=>?_,fun htr=>?_⟩
 ·rw [Zdl vs ts es hl,List.all_eq_false];exact ⟨(t,e),List.mem_of_getElem? hz,by simp [hf]⟩
 ·rw [List.take_add_one,hz,Option.toList_some,List.all_append,ha]
  simp [htr]
theorem Ze1 {vs:List ZZ} {ts:List KPl} {es:List KE} (hl:ts.length=es.length) {j:Nat} (hj:ts.length≤j) (ha:((ts.zip es).take j).all (fun x=>Zke vs x.1 x.2)=true):Zab vs ts es=true:=by
 rw [Zdl vs ts es hl]
 rwa [List.take_of_length_le (by rw [List.length_zip]; omega)] at ha
theorem ZmA (k:KK) (p:KP) (hkd:p.kind=4) (hl1:1≤p.tos.length∧p.tos.length≤8) (hg:p.g.length=0) (B:Nat) (w:World) (hk:k.In w B) (ok:KOk k) (hi:p.One w B) (hB:B≤w.heap.size) :
  Calls Tryz.prog 64 #[.agg k.flat,.agg p.cells] w (Zu (.bool (Zab k.vars p.tos p.e)) w):=by
 obtain ⟨W0,hW0⟩:∃ W,(w.alloc (.cells k.flat 34)).alloc (.cells p.cells 31)=W:=⟨_,rfl⟩
 obtain ⟨l1,l2,l3⟩:=Zf8 w k.flat p.cells 34 31;rw [hW0] at l1 l2 l3
 have HW:Hid (∀ w1:World,Below w.heap.size w w1→k.In w1 B∧p.One w1 B∧B≤w1.heap.size):=Lh fun w1 hb=>⟨hk.below (hb.mono hB),hi.below (hb.mono hB),Nat.le_trans hB hb.size⟩
 have y3:((p.kind:Int) == 3)=false:=by simp [hkd]
 have y4:((p.kind:Int) == 4)=true:=by simp [hkd]
 obtain ⟨m,hm⟩:∃ m,p.tos.length=m:=⟨_,rfl⟩
 obtain ⟨me,hme⟩:∃ m,p.e.length=m:=⟨_,rfl⟩
 have HM:=Lh hm;have HME:=Lh hme;rw [hm] at hl1;simp only [KK.flat,KP.cells,hm,hme,hg] at l2 l3 hW0 ⊢;have S0:Hid (Zn5 w W0 #[.slice k.Av k.vars.length k.cv,.slice k.Ac k.chans.length k.cc,.int .u8 k.root.kind,.int .i64 k.root.c,.int .i64 k.root.v,.int .u8 k.root.item,.slice k.root.At k.root.tos.length k.root.ct,.slice k.root.Ae k.root.e.length k.root.ce,.slice k.root.Ag k.root.g.length k.root.cg,.slice k.root.Al k.root.l.length k.root.cl,.slice k.Ap k.procs.length k.cp] #[.int .u8 p.kind,.int .i64 p.c,.int .i64 p.v,.int .u8 p.item,.slice p.At m p.ct,.slice p.Ae me p.ce,.slice p.Ag 0 p.cg,.slice p.Al p.l.length p.cl]):=Lh ⟨l1,l2,l3⟩;have q0:=l2.cell 0;simp at q0;obtain ⟨e0,e1,e2,e3,e4,e5,e6,e7⟩:=l3.c8;simp at e0 e1 e2 e3 e4 e5 e6 e7;have HST:=Lh (fun (hl:p.tos.length=p.e.length) (j:Nat) (t:KPl) (e:KE)=>Zer (vs:=k.vars) hl (j:=j) (t:=t) (e:=e));have HEN:=Lh (fun (hl:p.tos.length=p.e.length) (j:Nat)=>Ze1 (vs:=k.vars) hl (j:=j));have HLN:=Lh (Zdm k.vars p.tos p.e);generalize Zab k.vars p.tos p.e=R at *;clear l1 l2 l3 hk hi hkd hm hme hg;go_enter Tryz.func64,Tryz.ntmps64
 go_wp2_with fail
 go_loopw [5] (fun i wr=>∃ j:Nat,j≤m∧i = .int .i64 j∧Hid (Zn5 w wr #[.slice k.Av k.vars.length k.cv,.slice k.Ac k.chans.length k.cc,.int .u8 k.root.kind,.int .i64 k.root.c,.int .i64 k.root.v,.int .u8 k.root.item,.slice k.root.At k.root.tos.length k.root.ct,.slice k.root.Ae k.root.e.length k.root.ce,.slice k.root.Ag k.root.g.length k.root.cg,.slice k.root.Al k.root.l.length k.root.cl,.slice k.Ap k.procs.length k.cp] #[.int .u8 p.kind,.int .i64 p.c,.int .i64 p.v,.int .u8 p.item,.slice p.At m p.ct,.slice p.Ae me p.ce,.slice p.Ag 0 p.cg,.slice p.Al p.l.length p.cl])∧Hid (0 < j→m=me)∧Hid (((p.tos.zip p.e).take j).all (fun x=>Zke k.vars x.1 x.2)=true)) (fun i _=>m - (intOf i).toNat)
 case atStart=>exact ⟨0,Nat.zero_le _,rfl,S0,Lh (fun h=>absurd h (by omega)),Lh (by simp)⟩
 case round =>
  clear S0 q0 e0 e1 e2 e3 e4 e5 e6 e7;obtain ⟨j,hj,rfl,S,HJ,HA⟩:=hrel;have x1:=S.out.kb;have x2:=S.out.pb;have hkw:=x1.lt;have hpw:=x2.lt;have q0:=x1.cell 0;simp at q0;obtain ⟨e0,e1,e2,e3,e4,e5,e6,e7⟩:=x2.c8;simp at e0 e1 e2 e3 e4 e5 e6 e7;clear x1 x2 e0 e1 e2 e3 e7
  by_cases hlt:j < m
  ·have hltI:(j:Int) < m:=by omega
   have hin:=HW.out wr S.out.bel;obtain ⟨b,off,x,hA,hb,hx,hix,c0,c1⟩:=kpl_row hin.2.1.2.1 (k:=j) (by rw [HM.out]; exact hlt);have hbw:b < wr.heap.size:=Nat.lt_of_lt_of_le hb hin.2.2;rw [hA] at e4
   obtain ⟨vv,hvv⟩:∃ vv,x.v=vv:=⟨_,rfl⟩
   rw [hvv] at c0;have hvs:=hin.1.1.2.1;have HV:=Lh (fun (h0:¬ vv < 0) (h1:vv < (k.vars.length:Int))=>Zb2 hvs rfl (k:=vv.toNat) (by omega));have HN:=Lh (fun (h1:¬ vv < (k.vars.length:Int))=>List.getElem?_eq_none (l:=k.vars) (i:=vv.toNat) (by omega))
   by_cases hml:m=me
   ·subst hml;have HLE:Hid (p.tos.length=p.e.length):=Lh (by rw [HM.out,HME.out]);obtain ⟨b2,off2,y,hA2,hb2,hy,hiy,d0,d1,d2,d3,d4,d5⟩:=Zba hin.2.1.2.2.1 (k:=j) (by rw [HME.out]; exact hlt);have hbw2:b2 < wr.heap.size:=Nat.lt_of_lt_of_le hb2 hin.2.2;rw [hA2] at e5;have HX:=Lh (HST.out HLE.out j x y hx hy HA.out)
    have HAS:=Lh (show Zke k.vars x y=if x.v < 0 then false else match k.vars[x.v.toNat]? with
     | none=>false
     | some z=>Zai k.vars x z.kind && Z6 k.vars y z.kind from rfl)
    rw [hvv] at HAS;generalize Zke k.vars x y=ab at *
    by_cases h0:vv < 0
    ·have HXX:=Lh (HX.out.1 (by rw [HAS.out,if_pos h0]));clear HV HN hx hy hix hiy hA hA2 hin hvs HX HAS
     go_upto_region 9 with fail
     go_quiet (fail)
     go_wp2
     go_ret;exact ⟨by refine Za rfl ?_; rw [HXX.out],Zm S.out.bel _⟩
    have HAS:=Lh (HAS.out.trans (if_neg h0))
    by_cases h1:vv < (k.vars.length:Int)
    ·obtain ⟨b3,off3,z,hA3,hb3,hz,hmz,z0,z1⟩:=HV.out h0 h1;have hbw3:b3 < wr.heap.size:=Nat.lt_of_lt_of_le hb3 hin.2.2
     have h1n:¬ (k.vars.length:Int)≤vv:=by omega
     have hz3:=Zbs (ok.vs z hmz).1
     have HP:Hid (∀ w1:World,Below wr.heap.size wr w1→Calls Tryz.prog 81 #[.slice (some ⟨b3,off3,none⟩) k.vars.length k.cv,.agg x.cells,.int .u8 z.kind] w1 (Zu (.bool (Zai k.vars x z.kind)) w1)):=Lh fun w1 h=>by
      have h1:=HW.out w1 (S.out.bel.trans (h.mono S.out.bel.size));rw [← hA3];exact ZgV k.vars x z.kind k.Av k.cv B w1 h1.1.1.2.1 ok.nv (hix.below (h.mono hin.2.2)) h1.2.2
     have HF:Hid (∀ w1:World,Below wr.heap.size wr w1→Calls Tryz.prog 82 #[.slice (some ⟨b3,off3,none⟩) k.vars.length k.cv,.agg y.cells,.int .u8 z.kind] w1 (Zu (.bool (Z6 k.vars y z.kind)) w1)):=Lh fun w1 h=>by
      have h1:=HW.out w1 (S.out.bel.trans (h.mono S.out.bel.size));rw [← hA3];exact ZfB k.vars y z.kind (by rcases hz3 with h | h | h <;> simp [h]) k.Av k.cv B w1 h1.1.1.2.1 ok.nv (hiy.below (h.mono hin.2.2)) h1.2.2
     have HAS2:Hid (ab=(Zai k.vars x z.kind && Z6 k.vars y z.kind)):=Lh (by have h5:=HAS.out; rw [hz] at h5; exact h5);generalize Zai k.vars x z.kind=pb at *;generalize Z6 k.vars y z.kind=fb at *;rw [hA3] at q0;simp only [KPl.cells,KE.cells,hvv] at HP HF;clear HV HN hx hy hix hiy hA hA2 hA3 hin hvs hz hmz z1 HAS HA HJ HST HEN HLN e6 hz3
     go_upto_region 9 with fail
     obtain ⟨ι,F,i0',h0',hFb,hcl⟩:=ZC wr;have Fq0:=famc hFb q0 hkw;have Fe4:=famc hFb e4 hpw;have Fe5:=famc hFb e5 hpw;have Fc0:=famc hFb c0 hbw;have Fc1:=famc hFb c1 hbw;have Fd0:=famc hFb d0 hbw2;have Fd1:=famc hFb d1 hbw2;have Fd2:=famc hFb d2 hbw2;have Fd3:=famc hFb d3 hbw2;have Fd4:=famc hFb d4 hbw2;have Fd5:=famc hFb d5 hbw2;have Fz0:=famc hFb z0 hbw3;have HCP:=Lh (fun i=>HP.out (F i) (hFb i));have HCF:=Lh (fun i=>HF.out (F i) (hFb i))
     haveI:Nonempty ι:=⟨i0'⟩
     clear HP HF q0 e4 e5 c0 c1 d0 d1 d2 d3 d4 d5 z0
     cases pb
     all_goals
      refine Zb F i0' h0' (by kernel_rfl) (by kernel_rfl) ?_
      repeat (go_big_quiet_step (first
       | (go_at_call 81; refine (HCP.out _).mono ?_; rintro e w4 ⟨rfl,hb4⟩; exact ⟨rfl,hcl _ _ hb4⟩)
       | (go_at_call 82; refine (HCF.out _).mono ?_; rintro e w4 ⟨rfl,hb4⟩; exact ⟨rfl,hcl _ _ hb4⟩)))
      refine wpQuiet_nil ?_;intro i;have S5:=Lh (S.out.call (hFb i));clear HCP HCF Fq0 Fe4 Fe5 Fc0 Fc1 Fd0 Fd1 Fd2 Fd3 Fd4 Fd5 Fz0
     ·have HXX:=Lh (HX.out.1 (by rw [HAS2.out]; rfl))
      go_wp2
      go_ret;exact ⟨by refine Za rfl ?_; rw [HXX.out],S5.out.bel⟩
     ·cases fb
      ·have HXX:=Lh (HX.out.1 (by rw [HAS2.out]; rfl))
       go_wp2
       go_ret;exact ⟨by refine Za rfl ?_; rw [HXX.out],S5.out.bel⟩
      ·have HXX:=Lh (HX.out.2 (by rw [HAS2.out]; rfl))
       go_wp2
       go_roundw
       case rel=>exact ⟨j+1,by omega,by go_num,S5,Lh (fun _=>trivial),HXX⟩
       case measure=>simp [intOf]; omega
    ·have HXX:=Lh (HX.out.1 (by rw [HAS.out,HN.out h1]))
     have h1n:(k.vars.length:Int)≤vv:=by omega
     clear HV HN hx hy hix hiy hA hA2 hin hvs HX HAS
     go_upto_region 9 with fail
     go_quiet (fail)
     go_wp2
     go_ret;exact ⟨by refine Za rfl ?_; rw [HXX.out],Zm S.out.bel _⟩
   ·have HXX:=Lh (HLN.out (by rw [HM.out,HME.out]; exact hml))
    have hm1:((me:Int) == (m:Int))=false:=by simp; omega
    have hm2:((me:Int) != (m:Int))=true:=by simp; omega
    clear HV HN hx hix hA hin hvs hml
    go_upto_region 9 with fail
    go_quiet (fail)
    go_wp2
    go_ret;exact ⟨by refine Za rfl ?_; rw [HXX.out],Zm S.out.bel _⟩
  ·have hltI:¬ (j:Int) < m:=by omega
   obtain rfl:m=j:=by omega
   have HXX:=Lh (HEN.out (by rw [HM.out,HME.out]; exact HJ.out (by omega)) m (Nat.le_of_eq HM.out) HA.out)
   go_wp2
   go_loopw [7] (fun i wx=>i = .int .i64 0∧Hid (Zn5 w wx #[.slice k.Av k.vars.length k.cv,.slice k.Ac k.chans.length k.cc,.int .u8 k.root.kind,.int .i64 k.root.c,.int .i64 k.root.v,.int .u8 k.root.item,.slice k.root.At k.root.tos.length k.root.ct,.slice k.root.Ae k.root.e.length k.root.ce,.slice k.root.Ag k.root.g.length k.root.cg,.slice k.root.Al k.root.l.length k.root.cl,.slice k.Ap k.procs.length k.cp] #[.int .u8 p.kind,.int .i64 p.c,.int .i64 p.v,.int .u8 p.item,.slice p.At m p.ct,.slice p.Ae me p.ce,.slice p.Ag 0 p.cg,.slice p.Al p.l.length p.cl])) (fun i _=>0)
   case atStart=>exact ⟨rfl,S⟩
   case round =>
    obtain ⟨rfl,S⟩:=hrel;have x2:=S.out.pb;obtain ⟨e0,e1,e2,e3,e4,e5,e6,e7⟩:=x2.c8;simp at e0 e1 e2 e3 e4 e5 e6 e7;clear x2
    go_wp2
    go_ret;exact ⟨by refine Za rfl ?_; rw [HXX.out],S.out.bel⟩
def Zd6 (vs:List ZZ) (nc:Nat) (p:KP):Bool :=
 match p.kind with
 | 3=>decide (0≤p.v∧p.v < vs.length)
 | 4=>Zab vs p.tos p.e
 | 5=>ZdJ vs nc p.c p.item p.tos
 | 6=>ZS nc p.c p.item 0 && ZbJ vs p.e p.item
 | 7=>Zef vs p.tos 1
 | 8=>ZbJ vs p.e 1
 | 13=>ZbJ vs p.e 3
 | k=>p.g.all (ZR vs nc (k == 12))
theorem Zw (p:KP) (ch v:Bool) (t0 t1 e0 e1 g0 g1 l0 l1:Nat):Za3 p ch v t0 t1 e0 e1 g0 g1 l0 l1=Zac p.c p.v p.item p.tos.length p.e.length p.g.length p.l.length ch v t0 t1 e0 e1 g0 g1 l0 l1:=by
 simp only [Za3,Zac,inI]
 congr 1
 ·congr 1
  ·congr 1
   ·congr 1
    rw [decide_eq_decide]; omega
   ·rw [decide_eq_decide]; omega
  ·rw [decide_eq_decide]; omega
 ·rw [decide_eq_decide]; omega
theorem Zlc {p:KP} {f:KG→Bool} (h:p.g.length=0):p.g.all f=true:=by rw [Zm7 h]; rfl
theorem Zd9 {c v:Int} {item m1 m2 m3 m4:Nat} {ch vv:Bool} {a0 a1 b0 b1 d0 d1:Int} (h:Zac c v item m1 m2 m3 m4 ch vv a0 a1 b0 b1 0 0 d0 d1=true):m3=0:=by
 simp only [Zac,inI,Bool.and_eq_true,decide_eq_true_eq] at h
 omega
theorem Zl6 {S:Bool} {p:KP} {f:KG→Bool} (h:S=true→p.g.length=0):S=(S && p.g.all f):=by
 cases S with
 | false=>rfl
 | true=>rw [Zlc (h rfl)]; rfl
theorem Zo8 (vs:List ZZ) (p:KP):(decide (p.tos.length=p.e.length) && Zab vs p.tos p.e)=Zab vs p.tos p.e:=by
 by_cases h:p.tos.length=p.e.length
 ·rw [decide_eq_true h]; rfl
 ·rw [Zdm vs p.tos p.e h,Bool.and_false]
theorem Zdx (vs:List ZZ) (nc:Nat) (p:KP):ZW vs nc p=(ZbC p && Zd6 vs nc p):=by
 obtain ⟨kd,c,v,item,At,ct,tos,Ae,ce,e,Ag,cg,g,Al,cl,l⟩:=p
 match kd with
 | 0=>rfl
 | 1=>exact (Zw _ false false 0 0 0 0 0 0 0 0).trans (Zl6 (fun h=>Zd9 h))
 | 2=>exact (Zw _ false false 0 0 0 0 0 0 0 0).trans (Zl6 (fun h=>Zd9 h))
 | 3=>exact congrArg (· && _) (Zw _ false true 0 0 0 0 0 0 0 0)
 | 4=>exact (Bool.and_assoc _ _ _).trans ((congrArg (Za3 _ false false 1 8 1 8 0 0 0 0 && ·) (Zo8 vs ⟨4,c,v,item,At,ct,tos,Ae,ce,e,Ag,cg,g,Al,cl,l⟩)).trans (congrArg (· && _) (Zw _ false false 1 8 1 8 0 0 0 0)))
 | 5=>exact congrArg (· && _) (Zw _ true false 1 1 0 0 0 0 0 0)
 | 6=>exact (Bool.and_assoc _ _ _).trans (congrArg (· && _) (Zw _ true false 0 0 1 1 0 0 0 0))
 | 7=>exact congrArg (· && _) (Zw _ false false 1 1 0 0 0 0 0 0)
 | 8=>exact congrArg (· && _) (Zw _ false false 0 0 1 1 0 0 0 0)
 | 9=>exact (Zw _ false false 0 0 0 0 0 0 0 2048).trans (Zl6 (fun h=>Zd9 h))
 | 10=>exact (Zw _ false false 0 0 0 0 0 0 0 16).trans (Zl6 (fun h=>Zd9 h))
 | 11=>exact (Zw _ false false 0 0 0 0 0 0 2 2).trans (Zl6 (fun h=>Zd9 h))
 | 12=>exact congrArg (· && _) (Zw _ false false 0 0 0 0 0 16 0 0)
 | 13=>exact congrArg (· && _) (Zw _ false false 0 0 1 1 0 0 1 1)
 | 14=>exact congrArg (· && _) (Zw _ false false 0 0 0 0 0 16 0 0)
 | 15=>exact congrArg (· && _) (Zw _ false false 0 0 0 0 0 16 0 0)
 | n+16=>rfl
theorem ZeU (k:KK) (p:KP) (hl:ZbC p=true) (B:Nat) (w:World) (hk:k.In w B) (ok:KOk k) (hi:p.One w B) (hB:B≤w.heap.size) :
  Calls Tryz.prog 64 #[.agg k.flat,.agg p.cells] w (Zu (.bool (Zd6 k.vars k.chans.length p)) w):=by
 have hS:∀ f,ZfR p.kind=some f→Zac p.c p.v p.item p.tos.length p.e.length p.g.length p.l.length f.c f.v f.a0 f.a1 f.b0 f.b1 f.c0 f.c1 f.d0 f.d1=true:=by
  intro f hf;unfold ZbC at hl;rw [hf] at hl;exact hl
 have hlen:∀ f,ZfR p.kind=some f→f.a0≤p.tos.length∧p.tos.length≤f.a1∧f.b0≤p.e.length∧p.e.length≤f.b1∧f.c0≤p.g.length∧p.g.length≤f.c1:=by
  intro f hf;have:=hS f hf;simp only [Zac,inI,Bool.and_eq_true,decide_eq_true_eq] at this
  omega
 unfold Zd6
 split
 ·rename_i h; exact ZmB k p h B w hk ok hi hB
 ·rename_i h;have:=hlen ⟨false,false,false,1,8,1,8,0,0,0,0⟩ (by rw [h]; rfl)
  simp only at this
  exact ZmA k p h (by omega) (by omega) B w hk ok hi hB
 ·rename_i h;have:=hlen ⟨true,false,true,1,1,0,0,0,0,0,0⟩ (by rw [h]; rfl)
  simp only at this
  exact Zmz k p h (by omega) B w hk ok hi hB
 ·rename_i h;have:=hlen ⟨true,false,true,0,0,1,1,0,0,0,0⟩ (by rw [h]; rfl)
  simp only at this
  exact Zmy k p h (by omega) B w hk ok hi hB
 ·rename_i h;have:=hlen ⟨false,false,false,1,1,0,0,0,0,0,0⟩ (by rw [h]; rfl)
  simp only at this
  exact Zmx k p h (by omega) B w hk ok hi hB
 ·rename_i h;have:=hlen ⟨false,false,false,0,0,1,1,0,0,0,0⟩ (by rw [h]; rfl)
  simp only at this
  exact Zmw k p h (by omega) B w hk ok hi hB
 ·rename_i h;have:=hlen ⟨false,false,false,0,0,1,1,0,0,1,1⟩ (by rw [h]; rfl)
  simp only at this
  exact ZkL k p h (by omega) B w hk ok hi hB
 ·exact Zmv k p (by simp_all) B w hk ok hi hB
section
def ZA (k:KK) (deep:Int) (high:Bool):Array Value:=#[.slice k.Av k.vars.length k.cv,.slice k.Ac k.chans.length k.cc,.int .u8 k.root.kind,.int .i64 k.root.c,.int .i64 k.root.v,.int .u8 k.root.item,.slice k.root.At k.root.tos.length k.root.ct,.slice k.root.Ae k.root.e.length k.root.ce,.slice k.root.Ag k.root.g.length k.root.cg,.slice k.root.Al k.root.l.length k.root.cl,.slice k.Ap k.procs.length k.cp,.int .i64 deep,.bool high]
def Zf6 (k:KK) (p:KP):Prop:=∀ (deep n:Nat) (high:Bool) (B:Nat) (w:World),deep≤32→n≤2048→k.In w B→p.In w B→B≤w.heap.size →
 Calls Tryz.prog 49 #[.agg (ZA k deep high),.agg p.cells,.int .i64 n] w (Zu (.int .i64 (Zam (Zx k.vars k.chans.length deep high n p))) w)
structure ZgP (w W:World) (ks ps:Array Value):Prop where
 bel:Below w.heap.size w W
 kb:Blk W w.heap.size 113 ks
 pb:Blk W (w.heap.size+1) 31 ps
theorem ZgP.call {w W W1:World} {ks ps:Array Value} (h:ZgP w W ks ps) (hb:Below W.heap.size W W1):ZgP w W1 ks ps:=⟨h.bel.trans (hb.mono h.bel.size),h.kb.call hb,h.pb.call hb⟩
section
variable {vs:List ZZ} {nc:Nat}
theorem ZbH {l:List KP} {deep left j:Nat} {high first:Bool} (h:Zn vs nc deep high first left (l.take j)=none):Zn vs nc deep high first left l=none:=by
 have h2:=ZbQ (vs:=vs) (nc:=nc) (l.take j) (l.drop j) deep high first left;rw [List.take_append_drop,h] at h2;exact h2
theorem Ze5 {l:List KG} {deep left j:Nat} {high:Bool} (h:ZaF vs nc deep high left (l.take j)=none):ZaF vs nc deep high left l=none:=by
 have h2:=ZcG (vs:=vs) (nc:=nc) (l.take j) (l.drop j) deep high left;rw [List.take_append_drop,h] at h2;exact h2
def ZaD (vs:List ZZ) (nc:Nat) (deep:Nat) (high:Bool) (s:Option Nat) (g:List KG):Option Nat:=match s with
 | none=>none
 | some m=>ZaF vs nc deep high m g
section
variable {vs:List ZZ} {nc deep:Nat} {high:Bool} {s:Option Nat} {l:List KG}
theorem Zbx:ZaD vs nc deep high s (l.take 0)=s:=by
 cases s with
 | none=>rfl
 | some m=>simp only [ZaD,List.take_zero,ZaF]
theorem Zbh {k r:Nat} {x:KG} (h:l[k]? = some x) (hr:ZaD vs nc deep high s (l.take k)=some r):ZaD vs nc deep high s (l.take (k+1))=Zfz vs nc deep high r x:=by
 cases s with
 | none=>cases hr
 | some m=>exact Zid h hr
theorem Zag {j:Nat} (h:ZaD vs nc deep high s (l.take j)=none):ZaD vs nc deep high s l=none:=by
 cases s with
 | none=>rfl
 | some m=>exact Ze5 h
theorem Zcq {r:Nat} {g:KG} {q:KP} (h:g.body=[q]):Zfz vs nc deep high r g=Zx vs nc deep high r q:=by
 rw [Zfb,h]
end
end
theorem ZmH (k:KK) (ok:KOk k) (p:KP) (deep n:Nat) (high:Bool) (B:Nat) (w:World) (hd:deep≤32) (hn:n≤2048) (hk:k.In w B) (hi:p.In w B) (hB:B≤w.heap.size) (h:deep=32) :
  Calls Tryz.prog 49 #[.agg (ZA k deep high),.agg p.cells,.int .i64 n] w (Zu (.int .i64 (-1)) w):=by
 obtain ⟨W0,hW0⟩:∃ W,(w.alloc (.cells (ZA k deep high) 113)).alloc (.cells p.cells 31)=W:=⟨_,rfl⟩
 obtain ⟨l1,l2,l3⟩:=Zf8 w (ZA k deep high) p.cells 113 31;rw [hW0] at l1 l2 l3
 have HW:Hid (∀ w1:World,Below w.heap.size w w1→k.In w1 B∧p.In w1 B∧B≤w1.heap.size):=Lh fun w1 hb=>⟨hk.below (hb.mono hB),hi.below (hb.mono hB),Nat.le_trans hB hb.size⟩
 have hone:=hi.one.1;have hlen:=hone.2.2.2.2.2;have hlen2:=hone.2.2.2.2.1;unfold ZB at hlen hlen2
 obtain ⟨m,hm⟩:∃ m,p.l.length=m:=⟨_,rfl⟩
 obtain ⟨mg,hmg⟩:∃ m,p.g.length=m:=⟨_,rfl⟩
 have HM:=Lh hm;have HMG:=Lh hmg;rw [hm] at hlen;rw [hmg] at hlen2;have S:Hid (ZgP w W0 (ZA k deep high) p.cells):=Lh ⟨l1,l2,l3⟩;have HL:=Lh (fun w1=>ZeV p w1);have HT:=Lh (fun (hl:ZbC p=true) (w1:World) (hb:Below w.heap.size w w1)=>ZeU k p hl B w1 (HW.out w1 hb).1 ok (HW.out w1 hb).2.1.one (HW.out w1 hb).2.2)
 have y:((deep:Int) == 32)=true:=by simp [h]
 clear h HT HL;simp only [ZA,KP.cells,KK.flat,hm,hmg] at l2 l3 hW0 S ⊢;obtain ⟨q0,q1,q2,q3,q4,q5,q6,q7,q8,q9,q10,q11,q12⟩:=l2.c13;simp at q0 q1 q2 q3 q4 q5 q6 q7 q8 q9 q10 q11 q12;obtain ⟨e0,e1,e2,e3,e4,e5,e6,e7⟩:=l3.c8;simp at e0 e1 e2 e3 e4 e5 e6 e7;clear l1 l2 l3 hk hi hm hmg HW hone;go_enter Tryz.func49,Tryz.ntmps49
 go_wp2_with (first
  | fail)
 go_ret;exact ⟨rfl,S.out.bel⟩
theorem Zox (k:KK) (ok:KOk k) (p:KP) (deep n:Nat) (high:Bool) (B:Nat) (w:World) (hd:deep≤32) (hn:n≤2048) (hk:k.In w B) (hi:p.In w B) (hB:B≤w.heap.size) (hd2:deep < 32) (h:n=0) :
  Calls Tryz.prog 49 #[.agg (ZA k deep high),.agg p.cells,.int .i64 n] w (Zu (.int .i64 (-1)) w):=by
 obtain ⟨W0,hW0⟩:∃ W,(w.alloc (.cells (ZA k deep high) 113)).alloc (.cells p.cells 31)=W:=⟨_,rfl⟩
 obtain ⟨l1,l2,l3⟩:=Zf8 w (ZA k deep high) p.cells 113 31;rw [hW0] at l1 l2 l3
 have HW:Hid (∀ w1:World,Below w.heap.size w w1→k.In w1 B∧p.In w1 B∧B≤w1.heap.size):=Lh fun w1 hb=>⟨hk.below (hb.mono hB),hi.below (hb.mono hB),Nat.le_trans hB hb.size⟩
 have hone:=hi.one.1;have hlen:=hone.2.2.2.2.2;have hlen2:=hone.2.2.2.2.1;unfold ZB at hlen hlen2
 obtain ⟨m,hm⟩:∃ m,p.l.length=m:=⟨_,rfl⟩
 obtain ⟨mg,hmg⟩:∃ m,p.g.length=m:=⟨_,rfl⟩
 have HM:=Lh hm;have HMG:=Lh hmg;rw [hm] at hlen;rw [hmg] at hlen2;have S:Hid (ZgP w W0 (ZA k deep high) p.cells):=Lh ⟨l1,l2,l3⟩;have HL:=Lh (fun w1=>ZeV p w1);have HT:=Lh (fun (hl:ZbC p=true) (w1:World) (hb:Below w.heap.size w w1)=>ZeU k p hl B w1 (HW.out w1 hb).1 ok (HW.out w1 hb).2.1.one (HW.out w1 hb).2.2)
 have y:((deep:Int) == 32)=false:=by simp; omega
 have y0:((n:Int) == 0)=true:=by simp [h]
 clear h HT HL;simp only [ZA,KP.cells,KK.flat,hm,hmg] at l2 l3 hW0 S ⊢;obtain ⟨q0,q1,q2,q3,q4,q5,q6,q7,q8,q9,q10,q11,q12⟩:=l2.c13;simp at q0 q1 q2 q3 q4 q5 q6 q7 q8 q9 q10 q11 q12;obtain ⟨e0,e1,e2,e3,e4,e5,e6,e7⟩:=l3.c8;simp at e0 e1 e2 e3 e4 e5 e6 e7;clear l1 l2 l3 hk hi hm hmg HW hone;go_enter Tryz.func49,Tryz.ntmps49
 go_wp2_with (first
  | fail)
 go_ret;exact ⟨rfl,S.out.bel⟩
theorem Zig (k:KK) (ok:KOk k) (p:KP) (deep n:Nat) (high:Bool) (B:Nat) (w:World) (hd:deep≤32) (hn:n≤2048) (hk:k.In w B) (hi:p.In w B) (hB:B≤w.heap.size) (hd2:deep < 32) (h:n≠0) (hl:ZbC p=false) :
  Calls Tryz.prog 49 #[.agg (ZA k deep high),.agg p.cells,.int .i64 n] w (Zu (.int .i64 (-1)) w):=by
 obtain ⟨W0,hW0⟩:∃ W,(w.alloc (.cells (ZA k deep high) 113)).alloc (.cells p.cells 31)=W:=⟨_,rfl⟩
 obtain ⟨l1,l2,l3⟩:=Zf8 w (ZA k deep high) p.cells 113 31;rw [hW0] at l1 l2 l3
 have HW:Hid (∀ w1:World,Below w.heap.size w w1→k.In w1 B∧p.In w1 B∧B≤w1.heap.size):=Lh fun w1 hb=>⟨hk.below (hb.mono hB),hi.below (hb.mono hB),Nat.le_trans hB hb.size⟩
 have hone:=hi.one.1;have hlen:=hone.2.2.2.2.2;have hlen2:=hone.2.2.2.2.1;unfold ZB at hlen hlen2
 obtain ⟨m,hm⟩:∃ m,p.l.length=m:=⟨_,rfl⟩
 obtain ⟨mg,hmg⟩:∃ m,p.g.length=m:=⟨_,rfl⟩
 have HM:=Lh hm;have HMG:=Lh hmg;rw [hm] at hlen;rw [hmg] at hlen2;have S:Hid (ZgP w W0 (ZA k deep high) p.cells):=Lh ⟨l1,l2,l3⟩;have HL:=Lh (fun w1=>ZeV p w1);have HT:=Lh (fun (hl:ZbC p=true) (w1:World) (hb:Below w.heap.size w w1)=>ZeU k p hl B w1 (HW.out w1 hb).1 ok (HW.out w1 hb).2.1.one (HW.out w1 hb).2.2)
 have y:((deep:Int) == 32)=false:=by simp; omega
 have y0:((n:Int) == 0)=false:=by simp; omega
 rw [hl] at HL;clear h HT;simp only [ZA,KP.cells,KK.flat,hm,hmg] at l2 l3 hW0 S HL ⊢;obtain ⟨q0,q1,q2,q3,q4,q5,q6,q7,q8,q9,q10,q11,q12⟩:=l2.c13;simp at q0 q1 q2 q3 q4 q5 q6 q7 q8 q9 q10 q11 q12;obtain ⟨e0,e1,e2,e3,e4,e5,e6,e7⟩:=l3.c8;simp at e0 e1 e2 e3 e4 e5 e6 e7;clear l1 l2 l3 hk hi hm hmg HW hone;go_enter Tryz.func49,Tryz.ntmps49
 go_wp2_with (first
  | (go_at_call 63; (with_reducible refine (HL.out _).mono ?_); rintro e1 w1 ⟨rfl,hb1⟩
     replace S:=Lh (S.out.call hb1);have x1:=S.out.kb;have x2:=S.out.pb;obtain ⟨q0,q1,q2,q3,q4,q5,q6,q7,q8,q9,q10,q11,q12⟩:=x1.c13;simp at q0 q1 q2 q3 q4 q5 q6 q7 q8 q9 q10 q11 q12;obtain ⟨e0,e1,e2,e3,e4,e5,e6,e7⟩:=x2.c8;simp at e0 e1 e2 e3 e4 e5 e6 e7
     clear x1 x2 hb1))
 go_ret;exact ⟨rfl,S.out.bel⟩
theorem Zif (k:KK) (ok:KOk k) (p:KP) (deep n:Nat) (high:Bool) (B:Nat) (w:World) (hd:deep≤32) (hn:n≤2048) (hk:k.In w B) (hi:p.In w B) (hB:B≤w.heap.size) (hd2:deep < 32) (h:n≠0) (hl:ZbC p=true) (ht:Zd6 k.vars k.chans.length p=false) :
  Calls Tryz.prog 49 #[.agg (ZA k deep high),.agg p.cells,.int .i64 n] w (Zu (.int .i64 (-1)) w):=by
 obtain ⟨W0,hW0⟩:∃ W,(w.alloc (.cells (ZA k deep high) 113)).alloc (.cells p.cells 31)=W:=⟨_,rfl⟩
 obtain ⟨l1,l2,l3⟩:=Zf8 w (ZA k deep high) p.cells 113 31;rw [hW0] at l1 l2 l3
 have HW:Hid (∀ w1:World,Below w.heap.size w w1→k.In w1 B∧p.In w1 B∧B≤w1.heap.size):=Lh fun w1 hb=>⟨hk.below (hb.mono hB),hi.below (hb.mono hB),Nat.le_trans hB hb.size⟩
 have hone:=hi.one.1;have hlen:=hone.2.2.2.2.2;have hlen2:=hone.2.2.2.2.1;unfold ZB at hlen hlen2
 obtain ⟨m,hm⟩:∃ m,p.l.length=m:=⟨_,rfl⟩
 obtain ⟨mg,hmg⟩:∃ m,p.g.length=m:=⟨_,rfl⟩
 have HM:=Lh hm;have HMG:=Lh hmg;rw [hm] at hlen;rw [hmg] at hlen2;have S:Hid (ZgP w W0 (ZA k deep high) p.cells):=Lh ⟨l1,l2,l3⟩;have HL:=Lh (fun w1=>ZeV p w1);have HT:=Lh (fun (hl:ZbC p=true) (w1:World) (hb:Below w.heap.size w w1)=>ZeU k p hl B w1 (HW.out w1 hb).1 ok (HW.out w1 hb).2.1.one (HW.out w1 hb).2.2)
 have y:((deep:Int) == 32)=false:=by simp; omega
 have y0:((n:Int) == 0)=false:=by simp; omega
 rw [hl] at HL;have HT:=Lh (HT.out hl);rw [ht] at HT;clear h hl ht;simp only [ZA,KP.cells,KK.flat,hm,hmg] at l2 l3 hW0 S HL HT ⊢;obtain ⟨q0,q1,q2,q3,q4,q5,q6,q7,q8,q9,q10,q11,q12⟩:=l2.c13;simp at q0 q1 q2 q3 q4 q5 q6 q7 q8 q9 q10 q11 q12;obtain ⟨e0,e1,e2,e3,e4,e5,e6,e7⟩:=l3.c8;simp at e0 e1 e2 e3 e4 e5 e6 e7;clear l1 l2 l3 hk hi hm hmg HW hone;go_enter Tryz.func49,Tryz.ntmps49
 go_wp2_with (first
  | (go_at_call 63; (with_reducible refine (HL.out _).mono ?_); rintro e1 w1 ⟨rfl,hb1⟩
     replace S:=Lh (S.out.call hb1);have x1:=S.out.kb;have x2:=S.out.pb;obtain ⟨q0,q1,q2,q3,q4,q5,q6,q7,q8,q9,q10,q11,q12⟩:=x1.c13;simp at q0 q1 q2 q3 q4 q5 q6 q7 q8 q9 q10 q11 q12;obtain ⟨e0,e1,e2,e3,e4,e5,e6,e7⟩:=x2.c8;simp at e0 e1 e2 e3 e4 e5 e6 e7
     clear x1 x2 hb1)
  | (go_at_call 64; (with_reducible refine (HT.out _ S.out.bel).mono ?_); rintro e1 w1 ⟨rfl,hb1⟩
     replace S:=Lh (S.out.call hb1);have x1:=S.out.kb;have x2:=S.out.pb;obtain ⟨q0,q1,q2,q3,q4,q5,q6,q7,q8,q9,q10,q11,q12⟩:=x1.c13;simp at q0 q1 q2 q3 q4 q5 q6 q7 q8 q9 q10 q11 q12;obtain ⟨e0,e1,e2,e3,e4,e5,e6,e7⟩:=x2.c8;simp at e0 e1 e2 e3 e4 e5 e6 e7
     clear x1 x2 hb1))
 go_ret;exact ⟨rfl,S.out.bel⟩
theorem ZjC (k:KK) (ok:KOk k) (p:KP) (deep n:Nat) (high:Bool) (B:Nat) (w:World) (hd:deep≤32) (hn:n≤2048) (hk:k.In w B) (hi:p.In w B) (hB:B≤w.heap.size) (hd2:deep < 32) (h:n≠0) (hl:ZbC p=true) (ht:Zd6 k.vars k.chans.length p=true) (hh:high=true) (h11:p.kind=11) :
  Calls Tryz.prog 49 #[.agg (ZA k deep high),.agg p.cells,.int .i64 n] w (Zu (.int .i64 (-1)) w):=by
 obtain ⟨W0,hW0⟩:∃ W,(w.alloc (.cells (ZA k deep high) 113)).alloc (.cells p.cells 31)=W:=⟨_,rfl⟩
 obtain ⟨l1,l2,l3⟩:=Zf8 w (ZA k deep high) p.cells 113 31;rw [hW0] at l1 l2 l3
 have HW:Hid (∀ w1:World,Below w.heap.size w w1→k.In w1 B∧p.In w1 B∧B≤w1.heap.size):=Lh fun w1 hb=>⟨hk.below (hb.mono hB),hi.below (hb.mono hB),Nat.le_trans hB hb.size⟩
 have hone:=hi.one.1;have hlen:=hone.2.2.2.2.2;have hlen2:=hone.2.2.2.2.1;unfold ZB at hlen hlen2
 obtain ⟨m,hm⟩:∃ m,p.l.length=m:=⟨_,rfl⟩
 obtain ⟨mg,hmg⟩:∃ m,p.g.length=m:=⟨_,rfl⟩
 have HM:=Lh hm;have HMG:=Lh hmg;rw [hm] at hlen;rw [hmg] at hlen2;have S:Hid (ZgP w W0 (ZA k deep high) p.cells):=Lh ⟨l1,l2,l3⟩;have HL:=Lh (fun w1=>ZeV p w1);have HT:=Lh (fun (hl:ZbC p=true) (w1:World) (hb:Below w.heap.size w w1)=>ZeU k p hl B w1 (HW.out w1 hb).1 ok (HW.out w1 hb).2.1.one (HW.out w1 hb).2.2);subst hh
 have y:((deep:Int) == 32)=false:=by simp; omega
 have y0:((n:Int) == 0)=false:=by simp; omega
 have y11:((p.kind:Int) == 11)=true:=by simp [h11]
 rw [hl] at HL;have HT:=Lh (HT.out hl);rw [ht] at HT;clear h hl ht h11;simp only [ZA,KP.cells,KK.flat,hm,hmg] at l2 l3 hW0 S HL HT ⊢;obtain ⟨q0,q1,q2,q3,q4,q5,q6,q7,q8,q9,q10,q11,q12⟩:=l2.c13;simp at q0 q1 q2 q3 q4 q5 q6 q7 q8 q9 q10 q11 q12;obtain ⟨e0,e1,e2,e3,e4,e5,e6,e7⟩:=l3.c8;simp at e0 e1 e2 e3 e4 e5 e6 e7;clear l1 l2 l3 hk hi hm hmg HW hone;go_enter Tryz.func49,Tryz.ntmps49
 go_wp2_with (first
  | (go_at_call 63; (with_reducible refine (HL.out _).mono ?_); rintro e1 w1 ⟨rfl,hb1⟩
     replace S:=Lh (S.out.call hb1);have x1:=S.out.kb;have x2:=S.out.pb;obtain ⟨q0,q1,q2,q3,q4,q5,q6,q7,q8,q9,q10,q11,q12⟩:=x1.c13;simp at q0 q1 q2 q3 q4 q5 q6 q7 q8 q9 q10 q11 q12;obtain ⟨e0,e1,e2,e3,e4,e5,e6,e7⟩:=x2.c8;simp at e0 e1 e2 e3 e4 e5 e6 e7
     clear x1 x2 hb1)
  | (go_at_call 64; (with_reducible refine (HT.out _ S.out.bel).mono ?_); rintro e1 w1 ⟨rfl,hb1⟩
     replace S:=Lh (S.out.call hb1);have x1:=S.out.kb;have x2:=S.out.pb;obtain ⟨q0,q1,q2,q3,q4,q5,q6,q7,q8,q9,q10,q11,q12⟩:=x1.c13;simp at q0 q1 q2 q3 q4 q5 q6 q7 q8 q9 q10 q11 q12;obtain ⟨e0,e1,e2,e3,e4,e5,e6,e7⟩:=x2.c8;simp at e0 e1 e2 e3 e4 e5 e6 e7
     clear x1 x2 hb1))
 go_ret;exact ⟨rfl,S.out.bel⟩
end
end Go.Proofs.YtjndhfcfcedheaaGreatDoor
