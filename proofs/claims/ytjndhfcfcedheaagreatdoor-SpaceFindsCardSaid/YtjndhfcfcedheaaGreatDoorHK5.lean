/- Texts that belong together: KM. -/
import Derived.Test.YtjndhfcfcedheaaGreatDoorHK4
set_option linter.unusedVariables false
set_option linter.unusedSimpArgs false
set_option maxRecDepth 100000
set_option maxHeartbeats 16000000
namespace Go.Proofs.YtjndhfcfcedheaaGreatDoor
open Go.RowKit
theorem ZjR:(Tryz.prog.info? 151).map (fun i=>(i.zero,i.size,i.bytes))=some (some (.int .u64 0),1,8):=by kernel_rfl
theorem Zep {e:KE} (h:Zq e=true):e.kind=1∧e.l.length=0∨e.kind=2∧e.l.length=0∧0≤e.v∨e.kind=3∧e.l.length=1∧0≤e.v∨e.kind=4∧e.l.length=1∧23≤e.oper∧e.oper≤26∨e.kind=5∧e.l.length=2∧1≤e.oper∧e.oper≤22∨e.kind=6∧e.l.length=1∧1≤e.tk∧e.tk≤3:=by
 unfold Zq at h
 split at h
 all_goals first
  | (cases h; done)
  | (simp only [decide_eq_true_eq] at h; omega)
def Zl8 (k:KK) (n:Int) (e:KE):Prop:=∀ (B bc:Nat) (w:World),Chk w B bc k n→e.In w B→Calls Tryz.prog 102 #[.pointer (some ⟨bc,0,none⟩),.agg e.cells] w (Zu (.int .u64 (Z4 k.vars e:Nat)) w)
def Zdd (vs:List ZZ) (l:List KE):List Value:=l.map fun x=>.int .u64 (Z4 vs x:Nat)
theorem Zio {vs:List ZZ} {l:List KE} {k:Nat} {e:KE} (h:l[k]? = some e):Zdd vs (l.take k)++[.int .u64 (Z4 vs e:Nat)]=Zdd vs (l.take (k+1)):=by
 rw [List.take_add_one,h,Option.toList_some]
 simp [Zdd]
structure ZiD (k:KK) (n:Int) (l:List KE) (A:Option Addr) (cs:Array Value) (B bc:Nat) (w wr:World) (j:Nat) (v:Value):Prop where
 chk:Chk wr B bc k n
 inn:Zbm wr B A l
 box:Blk wr w.heap.size 65 cs
 own:wr.ownsRow (w.heap.size+1) 151 1 v j (Zdd k.vars (l.take j))
 bel:Below w.heap.size w wr
theorem ZnT (b:Bool) (w:World):Calls Tryz.prog 114 #[.bool b,.int .u8 1] w (Zu (.int .u64 (Zb4 b false false:Nat)) w):=by
 have h:=Zlo 1 (by simp) b w
 have e1:(b && decide (1=1))=b:=by cases b <;> rfl
 have e2:(b && decide (2=1))=false:=by cases b <;> rfl
 have e3:(b && decide (3=1))=false:=by cases b <;> rfl
 rw [e1,e2,e3] at h;exact h
theorem ZnS (b:Bool) (w:World):Calls Tryz.prog 114 #[.bool b,.int .u8 3] w (Zu (.int .u64 (Zb4 false false b:Nat)) w):=by
 have h:=Zlo 3 (by simp) b w
 have e1:(b && decide (1=3))=false:=by cases b <;> rfl
 have e2:(b && decide (2=3))=false:=by cases b <;> rfl
 have e3:(b && decide (3=3))=b:=by cases b <;> rfl
 rw [e1,e2,e3] at h;exact h
theorem ZpU (a b c:Bool) (w:World):Calls Tryz.prog 103 #[.int .u64 (Zb4 a b c:Nat),.int .u8 1] w (Zmd (.bool a) w):=ZqP a b c 1 (by simp) w
theorem ZpT (a b c:Bool) (w:World):Calls Tryz.prog 103 #[.int .u64 (Zb4 a b c:Nat),.int .u8 3] w (Zmd (.bool c) w):=ZqP a b c 3 (by simp) w
theorem Chk.low {w w':World} {B bc C:Nat} {k:KK} {n:Int} (h:Chk w B bc k n) (hb:Below C w w') (hc:bc < C):Chk w' B bc k n:=⟨h.blk.below hb hc,h.inn.below (hb.mono (by have:=h.le; omega)),h.le,h.ok⟩
theorem ZpR (k:KK) (n:Int) (e:KE):e.all (fun x=>Zq x=true)→Zl8 k n e:=by
 induction e using KE.ind with
 | h e ih =>
   intro hall B bc w hc hi;have hf:=Zep (KE.all_iff.1 hall).1;have HPARTS:Hid (∀ x∈e.l,Zl8 k n x):=Lh fun x hx=>ih x hx ((KE.all_iff.1 hall).2 x hx);have hparts:=hi.parts;have hone:=hi.one.1;clear ih hall hi;obtain ⟨kd,op,tk,nm,vv,A,c,l⟩:=e
   simp only at hf HPARTS hparts hone
   simp only [KE.cells];have hlt:=hc.lt
   obtain ⟨m,hm⟩:∃ m,l.length=m:=⟨_,rfl⟩
   rw [hm] at hf ⊢
   obtain ⟨W0,hW0⟩:∃ W,w.alloc (.cells #[.int .u8 kd,.int .u8 op,.int .u8 tk,.int .i32 nm,.int .i64 vv,.slice A m c] 65)=W:=⟨_,rfl⟩
   have b0:Blk W0 w.heap.size 65 #[.int .u8 kd,.int .u8 op,.int .u8 tk,.int .i32 nm,.int .i64 vv,.slice A m c]:=by rw [← hW0]; exact Blk.new w _ _
   have K0:Below w.heap.size w W0:=by rw [← hW0]; exact (Below.refl _ _).alloc (Nat.le_refl _) _
   have hsz0:w.heap.size+1≤W0.heap.size:=by rw [← hW0]; simp
   have AT0:Hid (ZiD k n l A #[.int .u8 kd,.int .u8 op,.int .u8 tk,.int .i32 nm,.int .i64 vv,.slice A m c] B bc w W0 0 (.slice none 0 0)):=Lh ⟨hc.call K0,hparts.below (K0.mono hc.leB),b0,World.ownsRow_nil _ _ _ _,K0⟩;obtain ⟨i0,hi0,hz0,hz1,hz2⟩:=info_parts ZjR;have HB0:=Lh (Zl0 k.vars);have HLB:=Lh hc.leB;have HM:=Lh hm
   have hm2:m≤2:=by omega
   have HF:=Lh hf;have HO:=Lh hone;have HSZ:=Lh hsz0;obtain ⟨e0,e1,e2,e3,e4,e5⟩:=b0.c6;simp at e0 e1 e2 e3 e4 e5;clear hf hc hparts hone b0 K0 hm hsz0;go_enter Tryz.func102,Tryz.ntmps102
   go_wp2_with fail
   go_loopw [5,6,13] (fun v b i wr=>∃ j:Nat,j≤m∧i = .int .i64 j∧b = .int .u64 (Zf2 k.vars (l.take j))∧Hid (ZiD k n l A #[.int .u8 kd,.int .u8 op,.int .u8 tk,.int .i32 nm,.int .i64 vv,.slice A m c] B bc w wr j v)) (fun _ _ i _=>m - (intOf i).toNat)
   case atStart=>exact ⟨0,Nat.zero_le _,rfl,by rw [List.take_zero,HB0.out],AT0⟩
   case round =>
    clear AT0;obtain ⟨j,hj,rfl,rfl,AT⟩:=hrel
    by_cases hltj:j < m
    ·have hltI:(j:Int) < m:=by omega
     obtain ⟨b,off,x,rfl,hb,hx,hin,c0,c1,c2,c3,c4,c5⟩:=Zba AT.out.inn (by rw [HM.out]; exact hltj)
     obtain ⟨W1,hW1⟩:∃ W,wr.alloc (.cells x.cells 65)=W:=⟨_,rfl⟩
     have K1:Below wr.heap.size wr W1:=by rw [← hW1]; exact (Below.refl _ _).alloc (Nat.le_refl _) _
     have HK1:=Lh K1
     have b1:Blk W1 wr.heap.size 65 x.cells:=by rw [← hW1]; exact Blk.new wr _ _
     have HX:=Lh hx;have HC:=Lh (HPARTS.out x (List.mem_of_getElem? hx) B bc W1 (AT.out.chk.call K1) (hin.below (K1.mono AT.out.chk.leB)));simp only [KE.cells] at hW1 HC b1;obtain ⟨f0,f1,f2,f3,f4,f5⟩:=b1.c6;simp at f0 f1 f2 f3 f4 f5;clear hx hin K1 b1
     go_upto_region 7 with (first
      | (go_at_call 102; (with_reducible refine HC.out.mono ?_); rintro e w1 ⟨rfl,hb1⟩
         have O2:=Lh (((AT.out.own.below HK1.out).below hb1).alloc (.cells #[.int .u64 (Z4 k.vars x:Nat)] 151));have b2:=Blk.new w1 151 #[.int .u64 (Z4 k.vars x:Nat)];have K2:=Lh hb1
         clear hb1)
      | (at_builtin; go_loud (refine Zcb Tryz.underlying156 hi0 hz0 hz1 hz2 rfl (by decide) O2.out (by have:=HK1.out.size; have:=K2.out.size; have:=AT.out.bel.size; simp; omega) rfl (.tmp 17) (.tmp 21) rfl rfl w1.heap.size 1 1 #[.int .u64 (Z4 k.vars x:Nat)] rfl b2 rfl (by simp [Value.oneCell']) (by omega) (by omega) ?_); intro v' w' hown hg hb hat))
     have H:=Lh (show Below (w.heap.size+1) wr w' from ((HK1.out.mono (by have:=AT.out.bel.size; have:=AT.out.box.lt; omega)).trans ((K2.out.mono (by have:=HK1.out.size; have:=AT.out.box.lt; omega)).alloc (by have:=HK1.out.size; have:=K2.out.size; have:=AT.out.box.lt; omega) _)).trans hb);have hown2:=hown;have et:Zdd k.vars (l.take j)++(#[Value.int .u64 (Z4 k.vars x:Nat)]:Array Value).toList=Zdd k.vars (l.take (j+1)):=Zio HX.out;rw [et] at hown2
     have HN:Hid (ZiD k n l (some ⟨b,off,none⟩) #[.int .u8 kd,.int .u8 op,.int .u8 tk,.int .i32 nm,.int .i64 vv,.slice (some ⟨b,off,none⟩) m c] B bc w w' (j+1) v') :=
      Lh ⟨AT.out.chk.low H.out (by omega),AT.out.inn.below (H.out.mono (by have:=HLB.out; omega)),AT.out.box.below H.out (by omega),hown2,AT.out.bel.trans (H.out.mono (by omega))⟩
     obtain ⟨g,cap,rfl,-,-⟩:=Z2 hown (by omega)
     have hcell:w'.cell? ⟨g,j,none⟩=some (.int .u64 (Z4 k.vars x:Nat)):=by
      obtain ⟨ad,u,e1,-,e2,e3⟩:=(Zo.of_own hown).at_ (k:=j) (by omega)
      injection e1 with e1
      subst e1
      have hl:(Zdd k.vars (l.take j)).length=j:=by simp [Zdd]; have:=HM.out; omega
      have e4:(Zdd k.vars (l.take j)++(#[Value.int .u64 (Z4 k.vars x:Nat)]:Array Value).toList)[j]? = some (.int .u64 (Z4 k.vars x:Nat)):=by
       rw [List.getElem?_append_right (by omega),hl]; simp
      rw [e4] at e2;rw [e2]
      have hadd:(⟨g,0,none⟩:Addr).add j=⟨g,j,none⟩:=by unfold Addr.add; split <;> simp_all
      rwa [hadd] at e3
     have HBT:=Lh (Zkc k.vars HX.out);have hbk:=HBT.out;clear AT O2 b2 hown hown2 hg hb hat et HX
     go_wp2
     go_roundw
     case rel=>exact ⟨j+1,by omega,by go_num,rfl,HN⟩
     case measure=>simp [intOf]; omega
    ·have hltI:¬ (j:Int) < m:=by omega
     obtain rfl:m=j:=by omega
     have htk:l.take m=l:=List.take_of_length_le (by rw [HM.out]; omega);rw [htk];have bx:=AT.out.box;obtain ⟨g0,g1,g2,g3,g4,g5⟩:=bx.c6;simp at g0 g1 g2 g3 g4 g5;have v0:=AT.out.chk.c0;have K:=Lh AT.out.bel;have hf:=HF.out;clear bx htk
     rcases hf with ⟨rfl,rfl⟩ | ⟨rfl,rfl,h0⟩ | ⟨rfl,rfl,h0⟩ | ⟨rfl,rfl,h1,h2⟩ | ⟨rfl,rfl,h1,h2⟩ | ⟨rfl,rfl,h1,h2⟩
     ·have HN:=Lh (ZoM nm HO.out.2.2.2.1 wr)
      go_wp2_with (go_at_call 116; (with_reducible refine HN.out.mono ?_); rintro e1 w1 ⟨rfl,hb1⟩)
      go_ret;exact ⟨by rw [ZjT]; rfl,K.out.trans (hb1.mono K.out.size)⟩
     ·by_cases hv:vv < (k.vars.length:Int)
      ·obtain ⟨b',off',x,hA,hb',hx,hm',d0,d1⟩:=Zb2 AT.out.chk.inn.1.2.1 rfl (k:=vv.toNat) (by omega);rw [hA] at v0;have hx3:=Zbs (AT.out.chk.ok.vs x hm').1;have hbw:b' < wr.heap.size:=Nat.lt_of_lt_of_le hb' AT.out.chk.leB;have hcw:=AT.out.chk.lt;have hew:=AT.out.box.lt
       obtain ⟨nv,hnv⟩:∃ q,k.vars.length=q:=⟨_,rfl⟩
       rw [hnv] at hv v0;have HXX:=Lh hx;clear hx hnv hA hm'
       go_upto_region 14 with fail
       go_quiet (fail)
       go_upto_region 15 with fail
       obtain ⟨ι,F,i0',h0',hFb,hcl⟩:=ZC (wr.drewN nq);have q0:∀ i,(F i).cell? ⟨bc,0,none⟩=some (.slice (some ⟨b',off',none⟩) nv k.cv):=fun i=>((hFb i).cell (p:=⟨bc,0,none⟩) hcw).trans v0;have q1:∀ i,(F i).cell? ⟨b',off'+vv.toNat * 2,none⟩=some (.int .u8 x.kind):=fun i=>((hFb i).cell (p:=⟨b',off'+vv.toNat * 2,none⟩) hbw).trans d0;have q2:∀ i,(F i).cell? ⟨b',off'+vv.toNat * 2+1,none⟩=some (.int .i64 x.dim):=fun i=>((hFb i).cell (p:=⟨b',off'+vv.toNat * 2+1,none⟩) hbw).trans d1;have q3:∀ i,(F i).cell? ⟨w.heap.size,4,none⟩=some (.int .i64 vv):=fun i=>((hFb i).cell (p:=⟨w.heap.size,4,none⟩) hew).trans g4;have HWF:=Lh (fun i b=>Zlo x.kind hx3 b (F i))
       haveI:Nonempty ι:=⟨i0'⟩
       refine Zb F i0' h0' (by kernel_rfl) (by kernel_rfl) ?_
       repeat (go_big_quiet_step (first
        | (go_at_call 114; refine (HWF.out _ _).mono ?_; rintro e w4 ⟨rfl,hb4⟩; exact ⟨rfl,hcl _ _ hb4⟩)))
       refine wpQuiet_nil ?_;intro i;have K5:=Lh ((Zm K.out nq).trans ((hFb i).mono K.out.size))
       go_wp2
       go_ret;exact ⟨by rw [ZjS HXX.out,show (x.dim == 0)=decide (x.dim=0) by rw [Bool.eq_iff_iff]; simp]; rfl,K5.out⟩
      ·have HXX:=Lh (List.getElem?_eq_none (l:=k.vars) (i:=vv.toNat) (by omega))
       obtain ⟨nv,hnv⟩:∃ q,k.vars.length=q:=⟨_,rfl⟩
       rw [hnv] at hv v0;clear hnv
       go_upto_region 14 with fail
       go_quiet (fail)
       go_wp2
       go_ret;exact ⟨by rw [Zip HXX.out]; rfl,Zm K.out _⟩
     ·obtain ⟨y,rfl⟩:=ZaR HM.out;rw [Zf1];have HH:=Lh (fun w1=>ZqP (Zt k.vars y 1) (Zt k.vars y 2) (Zt k.vars y 3) 1 (by simp) w1)
      by_cases hv:vv < (k.vars.length:Int)
      ·obtain ⟨b',off',x,hA,hb',hx,hm',d0,d1⟩:=Zb2 AT.out.chk.inn.1.2.1 rfl (k:=vv.toNat) (by omega);rw [hA] at v0;have hx3:=Zbs (AT.out.chk.ok.vs x hm').1;have hbw:b' < wr.heap.size:=Nat.lt_of_lt_of_le hb' AT.out.chk.leB;have hcw:=AT.out.chk.lt;have hew:=AT.out.box.lt
       obtain ⟨nv,hnv⟩:∃ q,k.vars.length=q:=⟨_,rfl⟩
       rw [hnv] at hv v0;have HXX:=Lh (Ziq (o:=op) (t:=tk) (c:=c) (n:=nm) (A:=A) (y:=y) hx);clear hx hnv hA hm';generalize Zt k.vars y 1=p1 at *;generalize Zt k.vars y 2=p2 at *;generalize Zt k.vars y 3=p3 at *
       go_upto_region 18 with fail
       go_quiet (fail)
       go_upto_region 19 with fail
       obtain ⟨ι,F,i0',h0',hFb,hcl⟩:=ZC (wr.drewN nq);have q0:∀ i,(F i).cell? ⟨bc,0,none⟩=some (.slice (some ⟨b',off',none⟩) nv k.cv):=fun i=>((hFb i).cell (p:=⟨bc,0,none⟩) hcw).trans v0;have q1:∀ i,(F i).cell? ⟨b',off'+vv.toNat * 2,none⟩=some (.int .u8 x.kind):=fun i=>((hFb i).cell (p:=⟨b',off'+vv.toNat * 2,none⟩) hbw).trans d0;have q2:∀ i,(F i).cell? ⟨b',off'+vv.toNat * 2+1,none⟩=some (.int .i64 x.dim):=fun i=>((hFb i).cell (p:=⟨b',off'+vv.toNat * 2+1,none⟩) hbw).trans d1;have q3:∀ i,(F i).cell? ⟨w.heap.size,4,none⟩=some (.int .i64 vv):=fun i=>((hFb i).cell (p:=⟨w.heap.size,4,none⟩) hew).trans g4;have HWF:=Lh (fun i b=>Zlo x.kind hx3 b (F i))
       haveI:Nonempty ι:=⟨i0'⟩
       by_cases hd:0 < x.dim
       all_goals
        refine Zb F i0' h0' (by kernel_rfl) (by kernel_rfl) ?_
        repeat (go_big_quiet_step (first
         | (go_at_call 114; refine (HWF.out _ _).mono ?_; rintro e w4 ⟨rfl,hb4⟩; exact ⟨rfl,hcl _ _ hb4⟩)
         | (go_at_call 103; refine (HH.out _).mono ?_; rintro e w4 ⟨rfl,rfl⟩; exact ⟨rfl,_,rfl⟩)))
        refine wpQuiet_nil ?_;intro i;have K5:=Lh ((Zm K.out nq).trans ((hFb i).mono K.out.size))
        go_wp2
        go_ret;exact ⟨by rw [HXX.out]; first | (simp [hd]; done) | simp [Int.not_lt.2 hd],K5.out⟩
      ·have HXX:=Lh (List.getElem?_eq_none (l:=k.vars) (i:=vv.toNat) (by omega))
       obtain ⟨nv,hnv⟩:∃ q,k.vars.length=q:=⟨_,rfl⟩
       rw [hnv] at hv v0;clear hnv HH
       go_upto_region 18 with fail
       go_quiet (fail)
       go_wp2
       go_ret;exact ⟨by rw [ZhI HXX.out]; rfl,Zm K.out _⟩
     ·obtain ⟨y,rfl⟩:=ZaR HM.out;rw [Zf1];have HXX:=Lh (ZjU (vs:=k.vars) (o:=op) (t:=tk) (c:=c) (n:=nm) (v:=vv) (A:=A) (y:=y) h1 h2)
      have ho:14≤op∧op≤26:=by omega
      generalize Zt k.vars y 1=p1 at *;generalize Zt k.vars y 2=p2 at *;generalize Zt k.vars y 3=p3 at *;have hz:=Zea p1 p2 p3;have HH1:=Lh (fun w1=>ZpU p1 p2 p3 w1);have HH3:=Lh (fun w1=>ZpT p1 p2 p3 w1);have HW1:=Lh (fun b w1=>ZnT b w1);have HW3:=Lh (fun b w1=>ZnS b w1)
      by_cases h26:op=26
      ·subst h26;clear HH1 HW1
       go_wp2_with (first
        | (go_at_call 103; (with_reducible refine (HH3.out _).mono ?_); rintro e1 w1 ⟨rfl,rfl⟩)
        | (go_at_call 114; (with_reducible refine (HW3.out _ _).mono ?_); rintro e1 w1 ⟨rfl,hb1⟩))
       go_ret;exact ⟨by rw [HXX.out]; simp [Zeh],K.out.trans (hb1.mono K.out.size)⟩
      ·have f14:((op:Int) == 14)=false:=by simp; omega
       have f15:((op:Int) == 15)=false:=by simp; omega
       have f16:((op:Int) == 16)=false:=by simp; omega
       have f17:((op:Int) == 17)=false:=by simp; omega
       have f18:((op:Int) == 18)=false:=by simp; omega
       have f19:((op:Int) == 19)=false:=by simp; omega
       have f20:((op:Int) == 20)=false:=by simp; omega
       have f21:((op:Int) == 21)=false:=by simp; omega
       have f22:((op:Int) == 22)=false:=by simp; omega
       have f26:((op:Int) == 26)=false:=by simp; omega
       have HOP:=Lh (show Zeh op p1 p2 p3=Zb4 p1 false false by rw [Zeh,if_neg (by omega),if_neg (by omega),if_neg (by omega),if_neg (by omega)]);clear HH3 HW3
       go_wp2_with (first
        | (go_at_call 103; (with_reducible refine (HH1.out _).mono ?_); rintro e1 w1 ⟨rfl,rfl⟩)
        | (go_at_call 114; (with_reducible refine (HW1.out _ _).mono ?_); rintro e1 w1 ⟨rfl,hb1⟩))
       go_ret;exact ⟨by rw [HXX.out,HOP.out]; simp,K.out.trans (hb1.mono K.out.size)⟩
     ·obtain ⟨y,z,rfl⟩:=Zlh HM.out;rw [ZlZ];have HXX:=Lh (Zlj (vs:=k.vars) (o:=op) (t:=tk) (c:=c) (n:=nm) (v:=vv) (A:=A) (y:=y) (z:=z) h1 h2);generalize (Zt k.vars y 1 && Zt k.vars z 1)=p1 at *;generalize (Zt k.vars y 2 && Zt k.vars z 2)=p2 at *;generalize (Zt k.vars y 3 && Zt k.vars z 3)=p3 at *;have hz:=Zea p1 p2 p3;have hz2:=Zea (p1 && true) (p2 && true) (p3 && false);have ha:=Zl5 p1 p2 p3 true true false;have HH1:=Lh (fun w1=>ZpU p1 p2 p3 w1);have HH3:=Lh (fun w1=>ZpT p1 p2 p3 w1);have HW1:=Lh (fun b w1=>ZnT b w1);have HW3:=Lh (fun b w1=>ZnS b w1);have HO2:=Lh (kOf [1,2] (by simp) (by simp) (some ⟨wr.heap.size,0,none⟩) 2 (wr.heap.size+1) (wr.alloc (.cells #[.int .u8 1,.int .u8 2] 25)) (Zed wr _ _ 2 _ rfl rfl));have KA:=Lh (K.out.alloc K.out.size (.cells #[.int .u8 1,.int .u8 2] 25))
      have hof:ofN [1,2]=Zb4 true true false:=by simp [ofN]
      rw [hof] at HO2;clear hof;simp only [List.length_cons,List.length_nil,Nat.zero_add,Nat.reduceAdd] at HO2
      by_cases h0:op=14∨op=15
      ·clear HH1 HW1 HH3 HO2 hz2 ha
       rcases h0 with rfl | rfl
       all_goals
        go_wp2_with (first
         | (go_at_call 114; (with_reducible refine (HW3.out _ _).mono ?_); rintro e1 w1 ⟨rfl,hb1⟩))
        go_ret;exact ⟨by rw [HXX.out]; simp [Zeh,hz,bne],K.out.trans (hb1.mono K.out.size)⟩
      by_cases h9:op=16∨op=17∨op=18∨op=19
      ·clear HH1 HW1 HH3 hz h0
       rcases h9 with rfl | rfl | rfl | rfl
       all_goals
        go_wp2_with (first
         | (go_at_call 115; (with_reducible refine HO2.out.mono ?_); rintro e1 w1 ⟨rfl,rfl⟩)
         | (go_at_call 114; (with_reducible refine (HW3.out _ _).mono ?_); rintro e1 w1 ⟨rfl,hb1⟩))
        go_ret;exact ⟨by rw [HXX.out]; simp at hz2; simp [Zeh,ha,hz2,bne],KA.out.trans (hb1.mono KA.out.size)⟩
      by_cases h20:op=20∨op=21
      ·clear HH1 HW1 hz h0 h9 HO2 hz2 ha
       rcases h20 with rfl | rfl
       all_goals
        go_wp2_with (first
         | (go_at_call 103; (with_reducible refine (HH3.out _).mono ?_); rintro e1 w1 ⟨rfl,rfl⟩)
         | (go_at_call 114; (with_reducible refine (HW3.out _ _).mono ?_); rintro e1 w1 ⟨rfl,hb1⟩))
        go_ret;exact ⟨by rw [HXX.out]; simp [Zeh],K.out.trans (hb1.mono K.out.size)⟩
      by_cases h22:op=22
      ·subst h22;clear HH3 HW1 hz h0 h9 h20 HO2 hz2 ha
       go_wp2_with (first
        | (go_at_call 103; (with_reducible refine (HH1.out _).mono ?_); rintro e1 w1 ⟨rfl,rfl⟩)
        | (go_at_call 114; (with_reducible refine (HW3.out _ _).mono ?_); rintro e1 w1 ⟨rfl,hb1⟩))
       go_ret;exact ⟨by rw [HXX.out]; simp [Zeh],K.out.trans (hb1.mono K.out.size)⟩
      ·have f14:((op:Int) == 14)=false:=by simp; omega
       have f15:((op:Int) == 15)=false:=by simp; omega
       have f16:((op:Int) == 16)=false:=by simp; omega
       have f17:((op:Int) == 17)=false:=by simp; omega
       have f18:((op:Int) == 18)=false:=by simp; omega
       have f19:((op:Int) == 19)=false:=by simp; omega
       have f20:((op:Int) == 20)=false:=by simp; omega
       have f21:((op:Int) == 21)=false:=by simp; omega
       have f22:((op:Int) == 22)=false:=by simp; omega
       have f26:((op:Int) == 26)=false:=by simp; omega
       have HOP:=Lh (show Zeh op p1 p2 p3=Zb4 p1 false false by rw [Zeh,if_neg (by omega),if_neg (by omega),if_neg (by omega),if_neg (by omega)]);clear HH3 HW3 hz h0 h9 h20 h22 HO2 hz2 ha
       go_wp2_with (first
        | (go_at_call 103; (with_reducible refine (HH1.out _).mono ?_); rintro e1 w1 ⟨rfl,rfl⟩)
        | (go_at_call 114; (with_reducible refine (HW1.out _ _).mono ?_); rintro e1 w1 ⟨rfl,hb1⟩))
       go_ret;exact ⟨by rw [HXX.out,HOP.out]; simp,K.out.trans (hb1.mono K.out.size)⟩
     ·obtain ⟨y,rfl⟩:=ZaR HM.out;rw [Zf1]
      have hcell:∃ g cap,u5 = .slice (some ⟨g,0,none⟩) 1 cap∧wr.cell? ⟨g,0,none⟩=some (.int .u64 (Z4 k.vars y:Nat)):=by
       have hown:=AT.out.own;obtain ⟨g,cap,rfl,-,-⟩:=Z2 hown (by omega);obtain ⟨ad,u,e1,-,e2,e3⟩:=(Zo.of_own hown).at_ (k:=0) (by omega)
       injection e1 with e1
       subst e1
       have e4:(Zdd k.vars ([y].take 1))[0]? = some (.int .u64 (Z4 k.vars y:Nat)):=by simp [Zdd]
       rw [e4] at e2;exact ⟨g,cap,rfl,by rw [e2]; exact e3⟩
      obtain ⟨gl,cap,rfl,d0⟩:=hcell;have HXX:=Lh (Zir (vs:=k.vars) (o:=op) (t:=tk) (c:=c) (n:=nm) (v:=vv) (A:=A) (y:=y));have hd:Z4 k.vars y=Zb4 (Zt k.vars y 1) (Zt k.vars y 2) (Zt k.vars y 3):=rfl;rw [hd] at d0
      have ht3:tk=1∨tk=2∨tk=3:=by omega
      have hgl:=(not_walk_of_cell d0)
      have hew:=AT.out.box.lt;have hz:=Zea (Zt k.vars y 1) (Zt k.vars y 2) (Zt k.vars y 3);clear hd;generalize Zt k.vars y 1=p1 at *;generalize Zt k.vars y 2=p2 at *;generalize Zt k.vars y 3=p3 at *
      go_upto_region 22 with fail
      have hgw:gl < wr.heap.size:=by
       obtain ⟨o,ho,-⟩:=hgl;exact (Array.getElem?_eq_some_iff.1 ho).1
      obtain ⟨ι,F,i0',h0',hFb,hcl⟩:=ZC wr;have q0:∀ i,(F i).cell? ⟨gl,0,none⟩=some (.int .u64 (Zb4 p1 p2 p3:Nat)):=fun i=>((hFb i).cell (p:=⟨gl,0,none⟩) hgw).trans d0;have q3:∀ i,(F i).cell? ⟨w.heap.size,2,none⟩=some (.int .u8 tk):=fun i=>((hFb i).cell (p:=⟨w.heap.size,2,none⟩) hew).trans g2;have HWF:=Lh (fun i b=>Zlo tk ht3 b (F i))
      haveI:Nonempty ι:=⟨i0'⟩
      clear hgl;refine Zb F i0' h0' (by kernel_rfl) (by kernel_rfl) ?_
      repeat (go_big_quiet_step (first
       | (go_at_call 114; refine (HWF.out _ _).mono ?_; rintro e w4 ⟨rfl,hb4⟩; exact ⟨rfl,hcl _ _ hb4⟩)))
      refine wpQuiet_nil ?_;intro i;have K5:=Lh (K.out.trans ((hFb i).mono K.out.size))
      go_wp2
      go_ret;exact ⟨by rw [HXX.out]; simp [hz,bne],K5.out⟩
end Go.Proofs.YtjndhfcfcedheaaGreatDoor
