/- Texts that belong together: KX. -/
import Derived.Test.YtjndhfcfcedheaaGreatDoorHK40
import Derived.Test.YtjndhfcfcedheaaGreatDoorHK32
set_option linter.unusedVariables false
set_option linter.unusedSimpArgs false
set_option maxRecDepth 100000
set_option maxHeartbeats 16000000
namespace Go.Proofs.YtjndhfcfcedheaaGreatDoor
open Go.RowKit
structure ZqM (w W:World) (B bc:Nat) (k:KK) (n:Int) (ps:Array Value):Prop where
 bel:Below w.heap.size w W
 pb:Blk W w.heap.size 31 ps
 chk:Chk W B bc k n
theorem ZqM.call {w W W1:World} {B bc:Nat} {k:KK} {n:Int} {ps:Array Value} (h:ZqM w W B bc k n ps) (hb:Below W.heap.size W W1):ZqM w W1 B bc k n ps:=⟨h.bel.trans (hb.mono h.bel.size),h.pb.call hb,h.chk.call hb⟩
theorem Zne (k:KK) (n:Int) (p:KP) (B bc:Nat) (w:World) (hc:Chk w B bc k n) (hi:p.One w B) :
  Calls Tryz.prog 68 #[.pointer (some ⟨bc,0,none⟩),.agg p.cells] w (Zu (.bool (Zar p false false 1 8 1 8 0 0 0 0 && (decide (p.tos.length=p.e.length) && Zab k.vars p.tos p.e))) w):=by
 obtain ⟨W0,hW0⟩:∃ W,w.alloc (.cells p.cells 31)=W:=⟨_,rfl⟩
 have b0:Blk W0 w.heap.size 31 p.cells:=by rw [← hW0]; exact Blk.new w _ _
 have K0:Below w.heap.size w W0:=by rw [← hW0]; exact (Below.refl _ _).alloc (Nat.le_refl _) _
 have hc0:=hc.call K0;have hi0:=hi.below (K0.mono hc.leB);have HK0:=Lh K0;have HB0:=Lh b0;have HSh:=Lh (fun w1=>Za1 p 1 8 1 8 0 0 0 0 w1)
 obtain ⟨W1,hW1⟩:∃ W,W0.alloc (.cells #[.int .i64 1,.int .i64 8] 35)=W:=⟨_,rfl⟩
 have K1:Below W0.heap.size W0 W1:=by rw [← hW1]; exact (Below.refl _ _).alloc (Nat.le_refl _) _
 have bs:Blk W1 W0.heap.size 35 #[.int .i64 1,.int .i64 8]:=by rw [← hW1]; exact Blk.new _ _ _
 have hsz:W0.heap.size=w.heap.size+1:=by rw [← hW0]; simp
 have HW:Hid (∀ w1:World,Below w.heap.size w w1→p.One w1 B∧B≤w1.heap.size):=Lh fun w1 hb=>⟨hi.below (hb.mono hc.leB),Nat.le_trans hc.leB hb.size⟩
 have b1:=b0.call K1;have S0:Hid (ZqM w W1 B bc k n p.cells):=Lh ⟨K0.trans (K1.mono K0.size),b1,hc0.call K1⟩;obtain ⟨s0,s1⟩:=bs.c2;simp at s0 s1;have HST:=Lh (fun (hl:p.tos.length=p.e.length) (j:Nat) (t:KPl) (e:KE)=>Zer (vs:=k.vars) hl (j:=j) (t:=t) (e:=e));have HEN:=Lh (fun (hl:p.tos.length=p.e.length) (j:Nat)=>Ze1 (vs:=k.vars) hl (j:=j))
 obtain ⟨m,hm⟩:∃ m,p.tos.length=m:=⟨_,rfl⟩
 obtain ⟨me,hme⟩:∃ m,p.e.length=m:=⟨_,rfl⟩
 have HM:=Lh hm;have HME:=Lh hme;have hone:=hi.2.1.1;unfold ZB at hone;rw [hm] at hone;generalize Zab k.vars p.tos p.e=R at *
 cases hs:Zar p false false 1 8 1 8 0 0 0 0 with
 | false =>
   rw [hs] at HSh;rw [Bool.false_and];simp only [KP.cells,hm,hme] at hW0 b1 HSh S0 ⊢;obtain ⟨e0,e1,e2,e3,e4,e5,e6,e7⟩:=b1.c8;simp at e0 e1 e2 e3 e4 e5 e6 e7;clear b0 b1 K0 K1 hc0 hi0 hc hi HB0 hs hm hme bs hsz;go_enter Tryz.func68,Tryz.ntmps68
   go_wp2_with (go_at_call 88; (with_reducible refine (HSh.out _).mono ?_); rintro e1 w1 ⟨rfl,hb1⟩)
   go_ret;exact ⟨rfl,S0.out.bel.trans (hb1.mono S0.out.bel.size)⟩
 | true =>
   rw [hs] at HSh;rw [Bool.true_and,hm,hme]
   have hl1:1≤m∧m≤8:=by have:=ZbW hs; omega
   obtain ⟨b,off,x0,hA,-,-,-,-,-⟩:=Zdc hi0.2.1 rfl (k:=0) (by omega);have HA0:=Lh hA;simp only [KP.cells,hm,hme,hA] at hW0 b1 HSh S0 ⊢;obtain ⟨e0,e1,e2,e3,e4,e5,e6,e7⟩:=b1.c8;simp at e0 e1 e2 e3 e4 e5 e6 e7;clear b0 b1 K0 K1 hc0 hi0 hc hi HB0 hs hm hme bs hsz hA
   by_cases hml:m=me
   ·subst hml;rw [show decide (m=m)=true by simp,Bool.true_and];have HLE:Hid (p.tos.length=p.e.length):=Lh (by rw [HM.out,HME.out]);have HST:=Lh (HST.out HLE.out);have HEN:=Lh (HEN.out HLE.out);go_enter Tryz.func68,Tryz.ntmps68
    go_wp2_with (first
     | (go_at_call 88; (with_reducible refine (HSh.out _).mono ?_); rintro e1 w1 ⟨rfl,hb1⟩
        have S:=Lh (S0.out.call hb1);have x1:=S.out.pb;obtain ⟨f0,f1,f2,f3,f4,f5,f6,f7⟩:=x1.c8;simp at f0 f1 f2 f3 f4 f5 f6 f7
        clear x1 hb1))
    go_loopw [28] (fun i wr=>∃ j:Nat,j≤m∧i = .int .i64 j∧Hid (ZqM w wr B bc k n #[.int .u8 p.kind,.int .i64 p.c,.int .i64 p.v,.int .u8 p.item,.slice (some ⟨b,off,none⟩) m p.ct,.slice p.Ae m p.ce,.slice p.Ag p.g.length p.cg,.slice p.Al p.l.length p.cl])∧Hid (((p.tos.zip p.e).take j).all (fun x=>Zke k.vars x.1 x.2)=true)) (fun i _=>m - (intOf i).toNat)
    case atStart=>exact ⟨0,Nat.zero_le _,rfl,S,Lh (by simp)⟩
    case round =>
     clear S S0 s0 s1 e0 e1 e2 e3 e4 e5 e6 e7 f0 f1 f2 f3 f4 f5 f6 f7;obtain ⟨j,hj,rfl,S,HA⟩:=hrel
     by_cases hlt:j < m
     ·have hltI:(j:Int) < m:=by omega
      have hin:=HW.out wr S.out.bel;obtain ⟨b',off',x,hA,hb,hx,hix,c0,c1⟩:=Zdc hin.1.2.1 rfl (k:=j) (by rw [HM.out]; exact hlt);have hA3:=HA0.out.symm.trans hA
      injection hA3 with hA3
      injection hA3 with ha1 ha2
      subst ha1 ha2
      obtain ⟨vv,hvv⟩:∃ vv,x.v=vv:=⟨_,rfl⟩
      rw [hvv] at c0;obtain ⟨b2,off2,y,hA2,hb2,hy,hiy,d0,d1,d2,d3,d4,d5⟩:=Zba hin.1.2.2.1 (k:=j) (by rw [HME.out]; exact hlt)
      obtain ⟨W2,hW2⟩:∃ W,wr.alloc (.cells #[.int .i64 vv,.slice x.A x.l.length x.c] 105)=W:=⟨_,rfl⟩
      have K2:Below wr.heap.size wr W2:=by rw [← hW2]; exact (Below.refl _ _).alloc (Nat.le_refl _) _
      have bt:Blk W2 wr.heap.size 105 #[.int .i64 vv,.slice x.A x.l.length x.c]:=by rw [← hW2]; exact Blk.new _ _ _
      have hbw2:b2 < wr.heap.size:=Nat.lt_of_lt_of_le hb2 hin.2;have S2:=Lh (S.out.call K2);have x1:=S2.out.pb;have x0:=S.out.pb;have hpw:=x1.lt;have htw:=bt.lt;have hcw:=S2.out.chk.lt;obtain ⟨f0,f1,f2,f3,f4,f5,f6,f7⟩:=x1.c8;simp at f0 f1 f2 f3 f4 f5 f6 f7;obtain ⟨e0,e1,e2,e3,e4,e5,e6,e7⟩:=x0.c8;simp at e0 e1 e2 e3 e4 e5 e6 e7;obtain ⟨t0,t1⟩:=bt.c2;simp at t0 t1;have q0:=S2.out.chk.c0;rw [hA2] at f5;have r0:=(K2.cell (p:=⟨b2,off2+j * 6,none⟩) hbw2).trans d0;have r1:=(K2.cell (p:=⟨b2,off2+j * 6+1,none⟩) hbw2).trans d1;have r2:=(K2.cell (p:=⟨b2,off2+j * 6+2,none⟩) hbw2).trans d2;have r3:=(K2.cell (p:=⟨b2,off2+j * 6+3,none⟩) hbw2).trans d3;have r4:=(K2.cell (p:=⟨b2,off2+j * 6+4,none⟩) hbw2).trans d4;have r5:=(K2.cell (p:=⟨b2,off2+j * 6+5,none⟩) hbw2).trans d5;have hbw3:b2 < W2.heap.size:=Nat.lt_of_lt_of_le hbw2 K2.size;have hvs:=S2.out.chk.inn.1.2.1;have HV:=Lh (fun (h0:¬ vv < 0) (h1:vv < (k.vars.length:Int))=>Zb2 hvs rfl (k:=vv.toNat) (by omega));have HN:=Lh (fun (h1:¬ vv < (k.vars.length:Int))=>List.getElem?_eq_none (l:=k.vars) (i:=vv.toNat) (by omega));have HX:=Lh (HST.out j x y hx hy HA.out)
      have HAS:=Lh (show Zke k.vars x y=if x.v < 0 then false else match k.vars[x.v.toNat]? with
       | none=>false
       | some z=>Zai k.vars x z.kind && Z6 k.vars y z.kind from rfl)
      rw [hvv] at HAS;generalize Zke k.vars x y=ab at *
      have HIX:Hid (∀ w1:World,Below wr.heap.size wr w1→x.In w1 B∧y.In w1 B):=Lh fun w1 h=>⟨hix.below (h.mono hin.2),hiy.below (h.mono hin.2)⟩
      have HK2:=Lh K2;clear hx hy hix hiy hA hA2 hin x1 x0 bt K2 d0 d1 d2 d3 d4 d5 hvs f0 f1 f2 f3 f6 f7 e0 e1 e2 e3 e5 e6 e7
      by_cases h0:vv < 0
      ·have HXX:=Lh (HX.out.1 (by rw [HAS.out,if_pos h0]));clear HV HN HX HAS
       go_upto_region 7 with fail
       go_quiet (fail)
       go_wp2
       go_ret;exact ⟨by refine Za rfl ?_; rw [HXX.out],Zm S2.out.bel _⟩
      have HAS:=Lh (HAS.out.trans (if_neg h0))
      by_cases h1:vv < (k.vars.length:Int)
      ·obtain ⟨b3,off3,z,hA3,hb3,hz,hmz,z0,z1⟩:=HV.out h0 h1;have hbw4:b3 < W2.heap.size:=Nat.lt_of_lt_of_le hb3 S2.out.chk.leB
       have h1n:¬ (k.vars.length:Int)≤vv:=by omega
       have hz3:=Zbs (S2.out.chk.ok.vs z hmz).1
       have HP:Hid (∀ w1:World,Below W2.heap.size W2 w1→Calls Tryz.prog 89 #[.pointer (some ⟨bc,0,none⟩),.agg x.cells,.int .u8 z.kind] w1 (Zu (.bool (Zai k.vars x z.kind)) w1)):=Lh fun w1 h =>
        Zlt k n x z.kind B bc w1 (S2.out.chk.call h) (HIX.out w1 (HK2.out.trans (h.mono HK2.out.size))).1
       have HF:Hid (∀ w1:World,Below W2.heap.size W2 w1→Calls Tryz.prog 90 #[.pointer (some ⟨bc,0,none⟩),.agg y.cells,.int .u8 z.kind] w1 (Zu (.bool (Z6 k.vars y z.kind)) w1)):=Lh fun w1 h =>
        Znj k n y z.kind hz3 B bc w1 (S2.out.chk.call h) (HIX.out w1 (HK2.out.trans (h.mono HK2.out.size))).2
       have HAS2:Hid (ab=(Zai k.vars x z.kind && Z6 k.vars y z.kind)):=Lh (by have h5:=HAS.out; rw [hz] at h5; exact h5);generalize Zai k.vars x z.kind=pb at *;generalize Z6 k.vars y z.kind=fb at *;rw [hA3] at q0;simp only [KPl.cells,KE.cells,hvv] at HP HF;clear HV HN hA3 hz hmz z1 HAS HA HST HEN hz3
       go_upto_region 7 with fail
       obtain ⟨ι,F,i0',h0',hFb,hcl⟩:=ZC W2;have Fq0:=famc hFb q0 hcw;have Ft0:=famc hFb t0 htw;have Ft1:=famc hFb t1 htw;have Ff5:=famc hFb f5 hpw;have Fr0:=famc hFb r0 hbw3;have Fr1:=famc hFb r1 hbw3;have Fr2:=famc hFb r2 hbw3;have Fr3:=famc hFb r3 hbw3;have Fr4:=famc hFb r4 hbw3;have Fr5:=famc hFb r5 hbw3;have Fz0:=famc hFb z0 hbw4;have HCP:=Lh (fun i=>HP.out (F i) (hFb i));have HCF:=Lh (fun i=>HF.out (F i) (hFb i))
       haveI:Nonempty ι:=⟨i0'⟩
       clear HP HF
       cases pb
       all_goals
        refine Zb F i0' h0' (by kernel_rfl) (by kernel_rfl) ?_
        repeat (go_big_quiet_step (first
         | (go_at_call 89; refine (HCP.out _).mono ?_; rintro e w4 ⟨rfl,hb4⟩; exact ⟨rfl,hcl _ _ hb4⟩)
         | (go_at_call 90; refine (HCF.out _).mono ?_; rintro e w4 ⟨rfl,hb4⟩; exact ⟨rfl,hcl _ _ hb4⟩)))
        refine wpQuiet_nil ?_;intro i;have S5:=Lh (S2.out.call (hFb i));clear HCP HCF Fq0 Ft0 Ft1 Ff5 Fr0 Fr1 Fr2 Fr3 Fr4 Fr5 Fz0
       ·have HXX:=Lh (HX.out.1 (by rw [HAS2.out]; rfl))
        go_wp2
        go_ret;exact ⟨by refine Za rfl ?_; rw [HXX.out],S5.out.bel⟩
       ·cases fb
        ·have HXX:=Lh (HX.out.1 (by rw [HAS2.out]; rfl))
         go_wp2
         go_ret;exact ⟨by refine Za rfl ?_; rw [HXX.out],S5.out.bel⟩
        ·have HXX:=Lh (HX.out.2 (by rw [HAS2.out]; rfl))
         go_wp2
         go_roundw
         case rel=>exact ⟨j+1,by omega,by go_num,S5,HXX⟩
         case measure=>simp [intOf]; omega
      ·have HXX:=Lh (HX.out.1 (by rw [HAS.out,HN.out h1]))
       have h1n:(k.vars.length:Int)≤vv:=by omega
       clear HV HN HX HAS
       go_upto_region 7 with fail
       go_quiet (fail)
       go_wp2
       go_ret;exact ⟨by refine Za rfl ?_; rw [HXX.out],Zm S2.out.bel _⟩
     ·have hltI:¬ (j:Int) < m:=by omega
      obtain rfl:m=j:=by omega
      have HXX:=Lh (HEN.out m (Nat.le_of_eq HM.out) HA.out)
      go_wp2
      go_ret;exact ⟨by refine Za rfl ?_; rw [HXX.out],S.out.bel⟩
   ·have hm1:((m:Int) == (me:Int))=false:=by simp; omega
    have hm2:((m:Int) != (me:Int))=true:=by simp; omega
    rw [show decide (m=me)=false by simp [hml],Bool.false_and];clear hml;go_enter Tryz.func68,Tryz.ntmps68
    go_wp2_with (first
     | (go_at_call 88; (with_reducible refine (HSh.out _).mono ?_); rintro e1 w1 ⟨rfl,hb1⟩
        have S:=Lh (S0.out.call hb1);have x1:=S.out.pb;obtain ⟨f0,f1,f2,f3,f4,f5,f6,f7⟩:=x1.c8;simp at f0 f1 f2 f3 f4 f5 f6 f7
        clear x1 hb1))
    go_ret;exact ⟨rfl,S.out.bel⟩
end Go.Proofs.YtjndhfcfcedheaaGreatDoor
