/- Texts that belong together: WB WC WE VJ VK VL WG WI WJ WK WL WM VM. -/
import Derived.Test.YtjndhfcfcedheaaGreatDoorHK22
import Derived.Test.YtjndhfcfcedheaaGreatDoorHK20
import Derived.Test.YtjndhfcfcedheaaGreatDoorHK4
import Derived.Test.YtjndhfcfcedheaaGreatDoorHK26
import Derived.Test.YtjndhfcfcedheaaGreatDoorHK35
import Derived.Test.YtjndhfcfcedheaaGreatDoorHK11
import Derived.OrdersIn
set_option linter.unusedVariables false
set_option linter.unusedSimpArgs false
set_option maxRecDepth 100000
set_option maxHeartbeats 16000000
namespace Go.Proofs.YtjndhfcfcedheaaGreatDoor
open Go.RowKit
theorem Zmn:(Tryz.prog.info? 81).map (fun i=>(i.zero,i.size,i.bytes))=some (some (.agg #[.int .u8 0,.int .i64 0,.int .i64 0,.int .u8 0,.slice none 0 0,.slice none 0 0,.slice none 0 0,.slice none 0 0,.int .i64 0]),9,136):=by kernel_rfl
theorem ZpA (p:KP) (hb:ZhY p) (hil:∀ x∈p.l,ZhW x) (hig:∀ g∈p.g,∀ x∈g.body,ZhW x):ZhW p:=by
 intro f B S0 bw FP s0 W hin hB hF ht hf hex hp;obtain ⟨i0,hi0,hz0,hz1,hz2⟩:=info_parts Zcu;obtain ⟨j0,hj0,hy0,hy1,hy2⟩:=info_parts ZhM;obtain ⟨u0,hu0,hx0,hx1,hx2⟩:=info_parts Zmn;have HS0:=Lh hp.hi;have HLT:=Lh hp.blk.lt;have HSB:=Lh hB;have HIL:=Lh hil;have HIG:=Lh hig;have HGD:=Lh hb;have HST:=Lh (Zgr f p ht hf hex);have HFF:=Lh hF
 have HINW:Hid (∀ s wr cs,WkS S0 bw s0 W cs s wr→p.In wr B∧B≤wr.heap.size):=Lh fun s wr cs h=>⟨hin.below ((h.kp.below hp).mono hB),Nat.le_trans hB h.pa.hi⟩
 obtain ⟨m,hm⟩:∃ m,p.l.length=m:=⟨_,rfl⟩
 obtain ⟨mg,hmg⟩:∃ m,p.g.length=m:=⟨_,rfl⟩
 have hlen:=hin.one.1.2.2.2.2.2;have hlen2:=hin.one.1.2.2.2.2.1;have hkk:=hin.one.1.1;unfold ZB at hlen hlen2;rw [hm] at hlen;rw [hmg] at hlen2;have HM:=Lh hm;have HMG:=Lh hmg
 obtain ⟨PA,hPA⟩:∃ q,p.Al=q:=⟨_,rfl⟩
 obtain ⟨PG,hPG⟩:∃ q,p.Ag=q:=⟨_,rfl⟩
 have HPA:=Lh hPA;have HPG:=Lh hPG;have S:=Lh (WkS.start p hp)
 have hfl:f≤1000000:=by have h1:=ZI HST.out.1.2.2.1; have h2:=HST.out.1.2.1; have h3:=hF.1; omega
 obtain ⟨W0,hW0⟩:∃ W0,W.alloc (.cells p.cells 31)=W0:=⟨_,rfl⟩
 rw [hW0] at S;have b0:=S.out.pb;have hpw:=b0.lt;have HUC:Hid (Zod (p,f)=[.int .u8 p.kind,.int .i64 p.c,.int .i64 p.v,.int .u8 p.item,.slice p.At p.tos.length p.ct,.slice p.Ae p.e.length p.ce,.slice PG mg p.cg,.slice PA m p.cl,.int .i64 f]):=Lh (by simp [Zod,KP.cells,hm,hmg,hPA,hPG]);simp only [KP.cells,hm,hmg,hPA,hPG] at b0 hW0 S ⊢;obtain ⟨e0,e1,e2,e3,e4,e5,e6,e7⟩:=b0.c8;simp at e0 e1 e2 e3 e4 e5 e6 e7;obtain ⟨Au,cu,hvu⟩:=Zv S.out.pa.us
 obtain ⟨nu,hnu⟩:∃ n,s0.pl.uses.length=n:=⟨_,rfl⟩
 have HNU:=Lh hnu
 have hnul:nu+1≤1000000:=by
  have h1:=ZI HST.out.1.2.2.2.1;have h3:=hF.2.1;simp only [ZdQ,List.length_append,List.length_singleton] at h1
  omega
 have c0:=S.out.pa.blk;have hHU:=S.out.pa.us;rw [hvu,hnu] at c0 hHU;rw [hnu] at hvu;have HVU:=Lh hvu;have HU0:Hid (W0.drew.ownsRow S0 81 9 (.slice Au nu cu) nu (Zh5 s0.pl.uses)):=Lh hHU.drew';have hbw:=c0.lt;have S0D:=Lh (S.out.call ((Below.refl _ W0).drew.alloc (Nat.le_refl _) (.cells #[.int .u8 p.kind,.int .i64 p.c,.int .i64 p.v,.int .u8 p.item,.slice p.At p.tos.length p.ct,.slice p.Ae p.e.length p.ce,.slice PG mg p.cg,.slice PA m p.cl,.int .i64 f] 81)));have HU1:=Lh (HU0.out.alloc (.cells #[.int .u8 p.kind,.int .i64 p.c,.int .i64 p.v,.int .u8 p.item,.slice p.At p.tos.length p.ct,.slice p.Ae p.e.length p.ce,.slice PG mg p.cg,.slice PA m p.cl,.int .i64 f] 81));obtain ⟨g0,g1,g2⟩:=c0.c3;simp at g0 g1 g2;obtain ⟨h0,h1,h2⟩:=c0.z3
 have hone:∀ u∈(#[.int .u8 p.kind,.int .i64 p.c,.int .i64 p.v,.int .u8 p.item,.slice p.At p.tos.length p.ct,.slice p.Ae p.e.length p.ce,.slice PG mg p.cg,.slice PA m p.cl,.int .i64 f]:Array Value).toList,u.oneCell'=true:=by simp [Value.oneCell']
 have hs1:nu+1≤1099511627776:=by omega
 have hs2:(nu+1) * 136≤140737488355328:=by omega
 have hz1':=S0D.out.pa.hi;clear b0 c0 hHU hin hm hmg hil hig hb hPA hPG ht hf hex hp hvu hnu hB hF;go_enter Tryz.func50,Tryz.ntmps50
 go_upto_region 1 with fail
 clear hW0
 go_cut [21] (fun s21 wx=>∃ s1:PlR,Hid (s1.pl=ZdQ f p s0.pl)∧Hid (WkS S0 bw s0 W #[.int .u8 p.kind,.int .i64 p.c,.int .i64 p.v,.int .u8 p.item,.slice p.At p.tos.length p.ct,.slice p.Ae p.e.length p.ce,.slice PG mg p.cg,.slice PA m p.cl] s1 wx))
 case first =>
  go_region_law (refine Zc4 Tryz.underlying77 hu0 hx0 hx1 hx2 rfl (by decide) HU1.out hz1' rfl (.tmp 14) (.tmp 18) rfl rfl W0.heap.size 1 1 #[.int .u8 p.kind,.int .i64 p.c,.int .i64 p.v,.int .u8 p.item,.slice p.At p.tos.length p.ct,.slice p.Ae p.e.length p.ce,.slice PG mg p.cg,.slice PA m p.cl,.int .i64 f] rfl (Blk.new W0.drew _ _) rfl hone hs1 hs2 ?_
                 intro v3 w3 ho3 hg3 hb3 hat3;obtain ⟨A3,c3,rfl⟩:=Zv ho3;have hg4:=hg3;have hat4:=hat3;rw [← HVU.out] at hg4 hat4;have b3:=S0D.out.pa.blk.grown hg4 (fun e=>Zg S0D.out.pa.us S0D.out.pa.blk (by decide) e.symm);have g1':=b3.cell 1;have f1':=b3.frozen 1;have l3:=b3.lt;simp at g1';have HE:=Lh (S0D.out.pa.addUse (u:=(p,f)) HNU.out (by rw [HUC.out]; exact ho3) hg4 hat4)
                 clear ho3 hg3 hb3 hat3 hg4 hat4 b3)
  all_goals
   go_wp2
   go_meet;exact ⟨⟨{ s0.pl with uses:=s0.pl.uses++[(p,f)] },s0.vp,.slice A3 (nu+1) c3,s0.vg,s0.vs⟩,Lh rfl,Lh (S0D.out.more HE.out.1 HE.out.2)⟩
 case rest =>
  clear S S0D HU0 HU1 e0 e1 e2 e3 e4 e5 e6 e7 g0 g1 g2 h0 h1 h2 hpw hbw hs1 hs2 hz1' hone hnul;obtain ⟨s1,HP1,S⟩:=hcut;have x1:=S.out.pb;have hpw:=x1.lt;obtain ⟨e0,e1,e2,e3,e4,e5,e6,e7⟩:=x1.c8;simp at e0 e1 e2 e3 e4 e5 e6 e7;clear x1
  go_upto_region 2 with fail
  go_cut [29] (fun s29 wx=>s29 = .bool (ZeX p)∧Hid (WkS S0 bw s0 W #[.int .u8 p.kind,.int .i64 p.c,.int .i64 p.v,.int .u8 p.item,.slice p.At p.tos.length p.ct,.slice p.Ae p.e.length p.ce,.slice PG mg p.cg,.slice PA m p.cl] s1 wx))
  case first =>
   by_cases h10:p.kind=10
   ·have y10:((p.kind:Int) == 10)=true:=by simp [h10]
    have hq:ZeX p=true:=by unfold ZeX; simp [h10]
    have HQ:=Lh hq;clear hq h10
    go_wp2_with fail
    go_meet;exact ⟨by rw [HQ.out],S⟩
   ·have y10:((p.kind:Int) == 10)=false:=by simp; omega
    by_cases h11:p.kind=11
    ·have y11:((p.kind:Int) == 11)=true:=by simp [h11]
     have hq:ZeX p=true:=by unfold ZeX; simp [h11]
     have HQ:=Lh hq;clear hq h10 h11
     go_wp2_with fail
     go_meet;exact ⟨by rw [HQ.out],S⟩
    ·have y11:((p.kind:Int) == 11)=false:=by simp; omega
     have hq:ZeX p=false:=by unfold ZeX; simp [h10,h11]
     have HQ:=Lh hq;clear hq h10 h11
     go_wp2_with fail
     go_meet;exact ⟨by rw [HQ.out],S⟩
  case rest =>
   clear S e0 e1 e2 e3 e4 e5 e6 e7 hpw;obtain ⟨rfl,S⟩:=hcut;have x1:=S.out.pb;have hpw:=x1.lt;obtain ⟨e0,e1,e2,e3,e4,e5,e6,e7⟩:=x1.c8;simp at e0 e1 e2 e3 e4 e5 e6 e7;clear x1
   obtain ⟨qp,hqp⟩:∃ q,ZeX p=q:=⟨_,rfl⟩
   have HQP:=Lh hqp;rw [hqp];clear hqp
   cases qp with
   | false =>
     have HW2:Hid (Zbz f p s0.pl=ZE f p.l s1.pl∧ZcR f p s0.pl=Zbz f p s0.pl):=Lh (by unfold ZcR Zbz; rw [HQP.out,HP1.out]; exact ⟨rfl,rfl⟩)
     go_wp2_with fail
     go_loopw [8] (fun i wr=>∃ (j:Nat) (s:PlR),j≤m∧i = .int .i64 j∧Hid (s.pl=ZE f (p.l.take j) s1.pl)∧Hid (WkS S0 bw s0 W #[.int .u8 p.kind,.int .i64 p.c,.int .i64 p.v,.int .u8 p.item,.slice p.At p.tos.length p.ct,.slice p.Ae p.e.length p.ce,.slice PG mg p.cg,.slice PA m p.cl] s wr)) (fun i _=>m - (intOf i).toNat)
     case atStart=>exact ⟨0,s1,Nat.zero_le _,rfl,Lh (by rw [List.take_zero,ZE]),S⟩
     case round =>
      clear S e0 e1 e2 e3 e4 e5 e6 e7 hpw;obtain ⟨j,s,hj,rfl,HP,S⟩:=hrel;have x1:=S.out.pb;have hpw:=x1.lt;obtain ⟨e0,e1,e2,e3,e4,e5,e6,e7⟩:=x1.c8;simp at e0 e1 e2 e3 e4 e5 e6 e7;clear x1
      by_cases hlt:j < m
      ·have hltI:(j:Int) < m:=by omega
       have hin:=HINW.out _ _ _ S.out;obtain ⟨b,off,x,hA,hb,hx,hmx,c0,c1,c2,c3,c4,c5,c6,c7⟩:=Za4 hin.1.one.2.2.2.2 rfl (k:=j) (by rw [HM.out]; exact hlt);have hbw:b < wr.heap.size:=Nat.lt_of_lt_of_le hb hin.2;obtain rfl:PA=some ⟨b,off,none⟩:=HPA.out.symm.trans hA;have HN:Hid (ZE f (p.l.take (j+1)) s1.pl=Z7 f x s.pl):=Lh (by rw [HP.out]; exact ZdN f hx _);have hpart:=Zfi hx (f:=f) (w:=s1.pl) (FP:=FP) (by rw [HP1.out]; exact HST.out.1.1) (by rw [HP1.out]; exact HST.out.1.2.1) (by rw [← HW2.out.1]; exact HST.out.2.1.2.2);rw [← HP.out] at hpart;have HC:Hid (Calls Tryz.prog 50 #[.pointer (some ⟨bw,0,none⟩),.agg x.cells,.int .i64 f] wr (ZnG S0 bw s0 W #[.int .u8 p.kind,.int .i64 p.c,.int .i64 p.v,.int .u8 p.item,.slice p.At p.tos.length p.ct,.slice p.Ae p.e.length p.ce,.slice PG mg p.cg,.slice (some ⟨b,off,none⟩) m p.cl] s (Z7 f x s.pl) wr)):=Lh (S.out.walk (HIL.out x hmx) (hin.1.part hmx) HSB.out HFF.out hpart.1 hpart.2.1 hpart.2.2);simp only [KP.cells] at HC;clear hx hmx hA hin hpart
       go_wp2_with (first
        | (go_at_call 50; (with_reducible refine HC.out.mono ?_); rintro e1 w3 ⟨⟨v9,rfl⟩,s',HP3,S3,HK3⟩))
       go_roundw
       case rel=>exact ⟨j+1,s',by omega,by go_num,Lh (by rw [HN.out]; exact HP3.out),S3⟩
       case measure=>simp [intOf]; omega
      ·have hltI:¬ (j:Int) < m:=by omega
       obtain rfl:m=j:=by omega
       have htk:p.l.take m=p.l:=List.take_of_length_le (by rw [HM.out]; omega);have HW3:Hid (s.pl=ZcR f p s0.pl):=Lh (by rw [HP.out,htk,HW2.out.2,HW2.out.1]);clear htk HP HW2
       obtain ⟨s3,hs3⟩:∃ s3,s=s3:=⟨_,rfl⟩
       rw [hs3] at S HW3;clear hs3
       go_wp2_with fail
       go_loopw [9] (fun i wr=>∃ (j2:Nat) (s:PlR),j2≤mg∧i = .int .i64 j2∧Hid (s.pl=ZF f (p.g.take j2) s3.pl)∧Hid (WkS S0 bw s0 W #[.int .u8 p.kind,.int .i64 p.c,.int .i64 p.v,.int .u8 p.item,.slice p.At p.tos.length p.ct,.slice p.Ae p.e.length p.ce,.slice PG mg p.cg,.slice PA m p.cl] s wr)) (fun i _=>mg - (intOf i).toNat)
       case atStart=>exact ⟨0,s3,Nat.zero_le _,rfl,Lh (by rw [List.take_zero,ZF]),S⟩
       case round =>
        clear S e0 e1 e2 e3 e4 e5 e6 e7 hpw;obtain ⟨j2,s,hj2,rfl,HP,S⟩:=hrel;have x1:=S.out.pb;have hpw:=x1.lt;obtain ⟨e0,e1,e2,e3,e4,e5,e6,e7⟩:=x1.c8;simp at e0 e1 e2 e3 e4 e5 e6 e7;clear x1
        by_cases hlt:j2 < mg
        ·have hltI:(j2:Int) < mg:=by omega
         have hin:=HINW.out _ _ _ S.out;obtain ⟨b,off,g,hA,hb,hx,hmx,hG⟩:=Zb7 hin.1.one.2.2.2.1.1 rfl (k:=j2) (by rw [HMG.out]; exact hlt);have hbw:b < wr.heap.size:=Nat.lt_of_lt_of_le hb hin.2;obtain rfl:PG=some ⟨b,off,none⟩:=HPG.out.symm.trans hA;obtain ⟨qq,hq⟩:=HGD.out.1 g hmx
         have hwg:∀ w,Zga f g w=Z7 f qq w:=fun w=>by rw [Zcz,hq]
         have HN:Hid (ZF f (p.g.take (j2+1)) s3.pl=Z7 f qq s.pl):=Lh (by rw [HP.out,← hwg]; exact ZdO f hx _);have hpart:=Zfj hx (f:=f) (w:=s3.pl) (FP:=FP) (by rw [HW3.out]; exact HST.out.2.2.1) (by rw [HW3.out]; exact HST.out.2.2.2.1) (by rw [HW3.out]; exact HST.out.2.2.2.2.2);rw [← HP.out,hwg] at hpart
         have hmq:qq∈g.body:=by rw [hq]; simp
         have HC:Hid (Calls Tryz.prog 50 #[.pointer (some ⟨bw,0,none⟩),.agg qq.cells,.int .i64 f] wr (ZnG S0 bw s0 W #[.int .u8 p.kind,.int .i64 p.c,.int .i64 p.v,.int .u8 p.item,.slice p.At p.tos.length p.ct,.slice p.Ae p.e.length p.ce,.slice (some ⟨b,off,none⟩) mg p.cg,.slice PA m p.cl] s (Z7 f qq s.pl) wr)):=Lh (S.out.walk (HIG.out g hmx qq hmq) (hin.1.guard hmx hmq) HSB.out HFF.out hpart.1 hpart.2.1 hpart.2.2);have d17:=hG.c17;obtain ⟨b2,off2,x,hA2,hb2,hx2,hmx2,c0,c1,c2,c3,c4,c5,c6,c7⟩:=Za4 (hin.1.one.2.2.2.1.2 g hmx).2.2.2.2 rfl (k:=0) (by rw [hq]; simp)
         have hxq:x=qq:=by rw [hq] at hx2; simpa using hx2.symm
         subst hxq;have hbw2:b2 < wr.heap.size:=Nat.lt_of_lt_of_le hb2 hin.2;rw [hq] at d17;rw [hA2] at d17;rw [Nat.zero_mul,Nat.add_zero] at c0 c1 c2 c3 c4 c5 c6 c7;simp only [List.length_singleton] at d17;simp only [KP.cells] at HC;clear hx hmx hA hin hpart hG hq hmq hwg hA2 hx2 hmx2
         go_wp2_with (first
          | (go_at_call 50; (with_reducible refine HC.out.mono ?_); rintro e1 w3 ⟨⟨v9,rfl⟩,s',HP3,S3,HK3⟩))
         go_roundw
         case rel=>exact ⟨j2+1,s',by omega,by go_num,Lh (by rw [HN.out]; exact HP3.out),S3⟩
         case measure=>simp [intOf]; omega
        ·have hltI:¬ (j2:Int) < mg:=by omega
         obtain rfl:mg=j2:=by omega
         have htk:p.g.take mg=p.g:=List.take_of_length_le (by rw [HMG.out]; omega);have HPE:Hid (s.pl=Z7 f p s0.pl):=Lh (by rw [HP.out,htk,HW3.out,Zdo]);clear htk
         go_wp2
         go_end0
         exact ⟨⟨_,rfl⟩,s,HPE.out,S.out.pa,S.out.kp⟩
   | true =>
     have HW2:Hid (Z7 f p s0.pl = { (Zj f p.l s1.pl []).1 with grp:=(Zj f p.l s1.pl []).1.grp++[(Zj f p.l s1.pl []).2],out:=(Zj f p.l s1.pl []).1.out++[f] }):=Lh (by rw [Zdo,HGD.out.2 HQP.out,ZF]; unfold ZcR Zbz ZbD; rw [HQP.out,HP1.out]; rfl);have HW4:Hid (Zbz f p s0.pl=(Zj f p.l s1.pl []).1):=Lh (by unfold Zbz; rw [HQP.out,HP1.out]; rfl)
     go_wp2_with fail
     go_loopw [6,7] (fun v i wr=>∃ (j:Nat) (s:PlR),j≤m∧i = .int .i64 j∧Hid (s.pl=(Zj f (p.l.take j) s1.pl []).1)∧Hid (WkS S0 bw s0 W #[.int .u8 p.kind,.int .i64 p.c,.int .i64 p.v,.int .u8 p.item,.slice p.At p.tos.length p.ct,.slice p.Ae p.e.length p.ce,.slice PG mg p.cg,.slice PA m p.cl] s wr)∧Hid (GrR W v (Zj f (p.l.take j) s1.pl []).2 s wr)) (fun _ i _=>m - (intOf i).toNat)
     case atStart=>exact ⟨0,s1,Nat.zero_le _,rfl,Lh (by rw [List.take_zero,Zj]),S,Lh (by rw [List.take_zero,Zj]; exact GrR.nil _ _ _)⟩
     case round =>
      clear S e0 e1 e2 e3 e4 e5 e6 e7 hpw;obtain ⟨j,s,hj,rfl,HP,S,G⟩:=hrel;obtain ⟨A,c,rfl⟩:=Zv G.out.1;have x1:=S.out.pb;have hpw:=x1.lt;obtain ⟨e0,e1,e2,e3,e4,e5,e6,e7⟩:=x1.c8;simp at e0 e1 e2 e3 e4 e5 e6 e7;clear x1
      by_cases hlt:j < m
      ·have hltI:(j:Int) < m:=by omega
       obtain ⟨x,hx⟩:∃ x,p.l[j]? = some x:=⟨_,List.getElem?_eq_getElem (by rw [HM.out]; exact hlt)⟩
       have HN:Hid (Zj f (p.l.take (j+1)) s1.pl []=(Z7 s.pl.par.length x (ZaC f s.pl),(Zj f (p.l.take j) s1.pl []).2++[s.pl.par.length])):=Lh (by rw [HP.out]; exact ZdP f hx _ _);have hpart:=Zfk hx (f:=f) (w:=s1.pl) (FP:=FP) (by rw [HP1.out]; exact HST.out.1.1) (by rw [HP1.out]; exact HST.out.1.2.1) (by rw [← HW4.out]; exact HST.out.2.1.2.2);rw [← HP.out] at hpart;have HPT:=Lh hpart;have HMX:=Lh (List.mem_of_getElem? hx);have HX:=Lh hx
       obtain ⟨ch,hch⟩:∃ ch,(Zj f (p.l.take j) s1.pl []).2=ch:=⟨_,rfl⟩
       rw [hch] at G HN HPT ⊢;have hchl:ch.length=j:=HPT.out.2.2.2;have HCL:=Lh hchl
       have hval:(Value.slice A ch.length c) = .slice A j c:=by rw [hchl]
       rw [hval] at G ⊢;clear hchl hval
       obtain ⟨nf,hnf⟩:∃ nf,s.pl.par.length=nf:=⟨_,rfl⟩
       have HNF:=Lh hnf;have hft:=ZcH (f:=f) HPT.out.1 HPT.out.2.1;have HFT:=Lh hft
       have hlp:nf+1≤1000000:=by
        have h1:=ZI HPT.out.2.2.1.1;have h2:=ZI (ZaW x s.pl.par.length (ZaC f s.pl) hft.1 (by simp [ZaC])).2.1;have h3:=HFF.out.1;simp only [ZaC,List.length_append,List.length_singleton] at h1 h2
        omega
       have hml:j≤nf:=by
        have h4:=Zez f (p.l.take j) s1.pl [] (by rw [HP1.out]; exact HST.out.1.1) (by rw [HP1.out]; exact HST.out.1.2.1) (by simp);rw [List.length_take,← HP.out,hnf] at h4;have:=HM.out
        omega
       obtain ⟨Ap,cp,hvp⟩:=Zv S.out.pa.pr;have c0:=S.out.pa.blk;rw [hvp,hnf] at c0;rw [hnf] at hvp HN;have HVP:=Lh hvp;have hbw:=c0.lt;obtain ⟨g0,g1,g2⟩:=c0.c3;simp at g0 g1 g2;have kb:=(Below.refl wr.heap.size wr).alloc (Nat.le_refl _) (.cells #[.int .i64 nf] 3);have S4:=Lh (S.out.call kb);have G4:=Lh (G.out.call kb);have hz4:W.heap.size≤(wr.alloc (.cells #[.int .i64 nf] 3)).heap.size:=Nat.le_of_lt S4.out.size;have HO4:Hid ((wr.alloc (.cells #[.int .i64 nf] 3)).ownsRow W.heap.size 3 1 (.slice A j c) j (ZbS ch)):=Lh (by have:=G4.out.1; rw [HCL.out] at this; exact this)
       have hs1:j+1≤1099511627776:=by omega
       have hs2:(j+1) * 8≤140737488355328:=by omega
       have hs3:nf+1≤1099511627776:=by omega
       have hs4:(nf+1) * 8≤140737488355328:=by omega
       clear kb c0 hx hpart hch hnf hft hvp S G
       go_upto_region 8 with (at_builtin; refine Zcb Tryz.underlying32 hi0 hz0 hz1 hz2 rfl (by decide) HO4.out hz4 rfl (.tmp 37) (.tmp 43) rfl rfl wr.heap.size 1 1 #[.int .i64 nf] rfl (Blk.new wr _ _) rfl (by simp [Value.oneCell']) hs1 hs2 ?_
                              intro v5 w5 ho5 hg5 hb5 hat5;obtain ⟨A5,c5,rfl⟩:=Zv ho5;have SG:=GrR.grow S4.out G4.out HCL.out ho5 hg5 hat5;have S5:=Lh SG.1;have G5:=Lh SG.2
                              clear ho5 hg5 hb5 hat5 SG)
       clear S4 G4 hz4 HO4 hs1 hs2 e0 e1 e2 e3 e4 e5 e6 e7 g0 g1 g2 hpw hbw;have c1:=S5.out.pa.blk;rw [HVP.out] at c1;have hbw:=c1.lt;obtain ⟨g0,g1,g2⟩:=c1.c3;simp at g0 g1 g2;obtain ⟨h0,h1,h2⟩:=c1.z3;have kb:=(Below.refl w5.heap.size w5).alloc (Nat.le_refl _) (.cells #[.int .i64 f] 3);have S6:=Lh (S5.out.call kb);have G6:=Lh (G5.out.call kb);have hz6:=S6.out.pa.hi;have HO6:Hid ((w5.alloc (.cells #[.int .i64 f] 3)).ownsRow S0 3 1 (.slice Ap nf cp) nf (ZO s.pl.par)):=Lh (by have:=S6.out.pa.pr; rw [HVP.out,HNF.out] at this; exact this);clear kb c1 S5 G5
       go_upto_region 9 with (at_builtin; refine Zcb Tryz.underlying32 hi0 hz0 hz1 hz2 rfl (by decide) HO6.out hz6 rfl (.tmp 49) (.tmp 51) rfl rfl w5.heap.size 1 1 #[.int .i64 f] rfl (Blk.new w5 _ _) rfl (by simp [Value.oneCell']) hs3 hs4 ?_
                              intro v7 w7 ho7 hg7 hb7 hat7;obtain ⟨A7,c7,rfl⟩:=Zv ho7;have hg8:=hg7;have hat8:=hat7;rw [← HVP.out] at hg8 hat8;have b7:=S6.out.pa.blk.grown hg8 (fun e=>Zg S6.out.pa.pr S6.out.pa.blk (by decide) e.symm);have k0:=b7.cell 0;have f0:=b7.frozen 0;have l7:=b7.lt;simp at k0;have HE:=Lh (S6.out.pa.addPar (x:=(f:Int)) HNF.out (by exact ho7) hg8 hat8)
                              clear ho7 hg7 hb7 hat7 hg8 hat8 b7)
       obtain ⟨s8,hs8⟩:∃ s8:PlR,s8=⟨{ s.pl with par:=s.pl.par++[(f:Int)] },.slice A7 (nf+1) c7,s.vu,s.vg,s.vs⟩:=⟨_,rfl⟩
       have HP8:Hid (s8.pl=ZaC f s.pl):=Lh (by rw [hs8]; rfl);have HV8:Hid (s8.vp = .slice A7 (nf+1) c7):=Lh (by rw [hs8]);have S8:=Lh (S6.out.more HE.out.1 HE.out.2);have G8:=Lh (G6.out.more HLT.out HE.out.2);rw [← hs8] at S8 G8;generalize w7.setCell ⟨bw,0,none⟩ (.slice A7 (nf+1) c7)=w8 at *;clear HE hs8 S6 G6 HO6 hz6 hs3 hs4 g0 g1 g2 h0 h1 h2 k0 f0 l7 hbw HVP;have kd:=(Below.refl w8.heap.size w8).drew;have S8D:=Lh (S8.out.call kd);have G8D:=Lh (G8.out.call kd);have c1:=S8.out.pa.blk;rw [HV8.out] at c1;have hbw:=c1.lt;obtain ⟨g0,g1,g2⟩:=c1.c3;simp at g0 g1 g2;have x1:=S8.out.pb;have hpw:=x1.lt;obtain ⟨e0,e1,e2,e3,e4,e5,e6,e7⟩:=x1.c8;simp at e0 e1 e2 e3 e4 e5 e6 e7;have hin:=HINW.out _ _ _ S8.out;obtain ⟨b,off,xx,hA,hb,hx,hmx,c0',c1',c2',c3',c4',c5',c6',c7'⟩:=Za4 hin.1.one.2.2.2.2 rfl (k:=j) (by rw [HM.out]; exact hlt);obtain rfl:x=xx:=Option.some.inj (HX.out.symm.trans hx);have hbw2:b < w8.heap.size:=Nat.lt_of_lt_of_le hb hin.2;obtain rfl:PA=some ⟨b,off,none⟩:=HPA.out.symm.trans hA
       have HC:Hid (∀ z:Int,z=nf→Calls Tryz.prog 50 #[.pointer (some ⟨bw,0,none⟩),.agg x.cells,.int .i64 z] w8.drew (ZnG S0 bw s0 W #[.int .u8 p.kind,.int .i64 p.c,.int .i64 p.v,.int .u8 p.item,.slice p.At p.tos.length p.ct,.slice p.Ae p.e.length p.ce,.slice PG mg p.cg,.slice (some ⟨b,off,none⟩) m p.cl] s8 (Z7 nf x (ZaC f s.pl)) w8.drew)):=Lh (by
        rintro z rfl;have:=S8D.out.walk (fr:=nf) (HIL.out x HMX.out) ((HINW.out _ _ _ S8D.out).1.part HMX.out) HSB.out HFF.out (by rw [HP8.out]; exact HFT.out.1) (by rw [HP8.out]; simp [ZaC,HNF.out]) (by rw [HP8.out,← HNF.out]; exact HPT.out.2.2.1);rw [HP8.out] at this
        exact this)
       simp only [KP.cells] at HC;clear kd c1 x1 hin hx hmx hA S8 G8;refine ZG 12 (by kernel_rfl) (by kernel_rfl) ?_;simp only [List.take_succ_cons,List.take_zero,List.drop_succ_cons,List.drop_zero]
       repeat go_big_quiet_step (fail)
       refine wpQuiet_nil ?_
       go_wp2_with (first
        | (go_at_call 50; (refine (HC.out _ ?hz).mono ?_); case hz=>(simp <;> omega)
           rintro e1 w9 ⟨⟨v9,rfl⟩,s9,HP9,S9,HK9⟩))
       have G9:=Lh (G8D.out.more HLT.out HK9.out);have HP10:Hid (s9.pl=(Zj f (p.l.take (j+1)) s1.pl []).1):=Lh (by rw [HN.out]; exact HP9.out);have G10:Hid (GrR W (.slice A5 (j+1) c5) (Zj f (p.l.take (j+1)) s1.pl []).2 s9 w9):=Lh (by rw [HN.out]; exact G9.out);clear HK9 G9 HP9 G8D S8D
       go_roundw
       case rel=>exact ⟨j+1,s9,by omega,by go_num,HP10,S9,G10⟩
       case measure=>simp [intOf]; omega
      ·have hltI:¬ (j:Int) < m:=by omega
       obtain rfl:m=j:=by omega
       have htk:p.l.take m=p.l:=List.take_of_length_le (by rw [HM.out]; omega);rw [htk] at HP G ⊢;clear htk
       have hgl:s.pl.grp.length≤1000000:=by
        have h1:=ZI HST.out.2.1.2.2.2.2;rw [HP.out,← HW4.out];have:=HFF.out.2.2
        omega
       obtain ⟨ch,hch⟩:∃ ch,(Zj f p.l s1.pl []).2=ch:=⟨_,rfl⟩
       have HCH:=Lh hch;rw [hch] at G ⊢
       obtain ⟨lc,hlc⟩:∃ n,ch.length=n:=⟨_,rfl⟩
       have HLC:=Lh hlc;rw [hlc] at G ⊢
       obtain ⟨ng,hng⟩:∃ n,s.pl.grp.length=n:=⟨_,rfl⟩
       have HNG:=Lh hng;rw [hng] at hgl;obtain ⟨Ag,cg,hvg⟩:=Zv S.out.pa.gp.1;have c0:=S.out.pa.blk;rw [hvg,hng] at c0;rw [hng] at hvg;have HVG:=Lh hvg;have hbw:=c0.lt;obtain ⟨g0,g1,g2⟩:=c0.c3;simp at g0 g1 g2;obtain ⟨h0,h1,h2⟩:=c0.z3;have kb:=(Below.refl wr.heap.size wr).alloc (Nat.le_refl _) (.cells #[.slice A lc c] 32);have S4:=Lh (S.out.call kb);have G4:=Lh (G.out.call kb);have HO4:Hid ((wr.alloc (.cells #[.slice A lc c] 32)).ownsRow S0 32 1 (.slice Ag ng cg) ng s.vs):=Lh (by have:=S4.out.pa.gp.1; rw [hvg,HNG.out] at this; exact this);have hz4:=S4.out.pa.hi
       have hs1:ng+1≤1099511627776:=by omega
       have hs2:(ng+1) * 24≤140737488355328:=by omega
       clear kb c0 hvg hng hch hlc
       go_wp2_with (first
        | (at_builtin; refine Zcb Tryz.underlying55 hj0 hy0 hy1 hy2 rfl (by decide) HO4.out hz4 rfl (.tmp 72) (.tmp 74) rfl rfl wr.heap.size 1 1 #[.slice A lc c] rfl (Blk.new wr _ _) rfl (by simp [Value.oneCell']) hs1 hs2 ?_
           intro v5 w5 ho5 hg5 hb5 hat5;obtain ⟨A5,c5,rfl⟩:=Zv ho5;have hg6:=hg5;have hat6:=hat5;rw [← HVG.out] at hg6 hat6;have hd5:=S4.out.pa.blk.grown hg6 (fun e=>Zg S4.out.pa.gp.1 S4.out.pa.blk (by decide) e.symm);have hd2:=hd5.cell 2;have hf2:=hd5.frozen 2;have hl2:=hd5.lt;simp at hd2;have SG:=Lh (S4.out.group (f:=f) HS0.out G4.out rfl (by rw [HNG.out]; exact ho5) hg6 hat6)
           clear ho5 hg5 hb5 hat5 hg6 hat6 hd5))
       go_end0
       refine ⟨⟨_,rfl⟩,_,?_,SG.out.pa,SG.out.kp⟩;rw [HW2.out,HCH.out,← HP.out]
theorem rWalk (p:KP):p.all ZhY→ZhW p:=by
 induction p using KP.ind with
 | h p ihg ihl =>
   intro h;rw [KP.all_iff] at h;obtain ⟨h1,h2,h3⟩:=h;exact ZpA p h1 (fun x hx=>ihl x hx (h3 x hx)) (fun g hg x hx=>ihg g hg x hx (h2 g hg x hx))
def Zpa (p:KP) (w:World) (e:Ending) (w':World):Prop:=∃ bw s,e = .returned (.pointer (some ⟨bw,0,none⟩))∧Hid (s.pl=Zd p)∧Hid (Za8 w.heap.size bw s w')∧Hid (Below w.heap.size w w')
theorem ZnN (p:KP) (hg:p.all ZhY) (hF:Zjr (Zd p)) (B:Nat) (w:World) (hin:p.In w B) (hB:B≤w.heap.size):Calls Tryz.prog 23 #[.agg p.cells] w (Zpa p w):=by
 obtain ⟨W0,hW0⟩:∃ W0,w.alloc (.cells p.cells 31)=W0:=⟨_,rfl⟩
 have hz0:W0.heap.size=w.heap.size+1:=by rw [← hW0]; exact World.size_alloc _ _
 have K0:Below w.heap.size w W0:=by rw [← hW0]; exact (Below.refl _ _).alloc (Nat.le_refl _) _
 have HB0:Blk W0 w.heap.size 31 p.cells:=by rw [← hW0]; exact Blk.new _ _ _
 obtain ⟨W1,hW1⟩:∃ W1,W0.alloc (.cells #[.int .i64 (-1)] 3)=W1:=⟨_,rfl⟩
 have hz1:W1.heap.size=w.heap.size+2:=by rw [← hW1,World.size_alloc,hz0]
 obtain ⟨W2,hW2⟩:∃ W2,W1.alloc (.cells #[.slice (some ⟨w.heap.size+1,0,none⟩) 1 1,.slice none 0 0,.slice none 0 0] 79)=W2:=⟨_,rfl⟩
 have hz2:W2.heap.size=w.heap.size+3:=by rw [← hW2,World.size_alloc,hz1]
 have K1:Below w.heap.size w W1:=by rw [← hW1]; exact K0.alloc (by omega) _
 have K2:Hid (Below w.heap.size w W2):=Lh (by rw [← hW2]; exact K1.alloc (by omega) _)
 have hp:Za8 w.heap.size (w.heap.size+2) ⟨⟨[-1],[],[],[]⟩,.slice (some ⟨w.heap.size+1,0,none⟩) 1 1,.slice none 0 0,.slice none 0 0,[]⟩ W2:=by
  refine ⟨by omega,by omega,?_,?_,World.ownsRow_nil _ _ _ _,⟨World.ownsRow_nil _ _ _ _,by simp,fun i g h=>by simp at h⟩⟩
  ·rw [← hW2]; have:=Blk.new W1 79 #[.slice (some ⟨w.heap.size+1,0,none⟩) 1 1,.slice none 0 0,.slice none 0 0]; rwa [hz1] at this
  ·have h1:W1.ownsRow w.heap.size 3 1 (.slice (some ⟨w.heap.size+1,0,none⟩) 1 1) 1 (ZO [-1]):=by
    refine ⟨rfl,.inr ⟨w.heap.size+1,1,#[.int .i64 (-1)],rfl,by omega,?_,Nat.le_refl _,by decide,rfl,rfl⟩⟩;rw [← hW1]; have:=Blk.new W0 3 #[.int .i64 (-1)]; rw [hz0] at this; exact this
   rw [← hW2]; exact h1.alloc _
 have HC:Hid (Calls Tryz.prog 50 #[.pointer (some ⟨w.heap.size+2,0,none⟩),.agg p.cells,.int .i64 0] W2 (Zqy w.heap.size (w.heap.size+2) ⟨⟨[-1],[],[],[]⟩,.slice (some ⟨w.heap.size+1,0,none⟩) 1 1,.slice none 0 0,.slice none 0 0,[]⟩ (Zd p) W2)) :=
  Lh (rWalk p hg 0 B w.heap.size (w.heap.size+2) (Zd p) _ W2 (hin.below (K2.out.mono hB)) hB hF Zfs (by simp) (Ext.refl _) hp)
 have HP:=Lh hp
 have b0:Blk W2 w.heap.size 31 p.cells:=by rw [← hW2,← hW1]; exact (HB0.alloc _).alloc _
 clear K0 K1 HB0 hp hin hB hF hg;simp only [KP.cells] at hW0 b0 HC ⊢;have hlt:=b0.lt;obtain ⟨e0,e1,e2,e3,e4,e5,e6,e7⟩:=b0.c8;simp at e0 e1 e2 e3 e4 e5 e6 e7;clear b0;go_enter Tryz.func23,Tryz.ntmps23
 go_upto_region 1 with fail
 go_upto_region 2 with fail
 clear hW0 hW1 hW2
 go_wp2_with (first
  | (go_at_call 50; (with_reducible refine HC.out.mono ?_); rintro e1 w3 ⟨⟨v9,rfl⟩,s3,hs3,hp3,hk3⟩
     have HS3:=Lh hs3;have HP3:=Lh hp3;have HK3:=Lh hk3
     clear hs3 hp3 hk3))
 go_ret;exact ⟨_,s3,rfl,HS3,HP3,Lh (K2.out.trans (HK3.out.below HP.out))⟩
theorem Zii {k:KK} {b c i:Nat} {p:KP} (h:k.root.l[i]? = some p):Zbj k b c (i+1)=(Zbj k b c i || (decide (i≠b) && Zpj (Zd p) (c:Int))):=by rw [Zbj,h]
theorem ZhB {k:KK} {b c:Nat}:∀ {i j:Nat},Zbj k b c i=true→i≤j→Zbj k b c j=true
 | i,0,h,hl=>by obtain rfl:i=0:=by omega
                exact h
 | i,j+1,h,hl=>by
   by_cases he:i=j+1
   ·subst he; exact h
   ·rw [Zbj,ZhB h (by omega),Bool.true_or]
theorem Zi6 {vs:List ZZ} {nc:Nat} {p:KP} (h:p.all (fun x=>ZW vs nc x=true)):p.all ZhY:=KP.all_imp (fun _ hx=>Ziy hx) p h
theorem Za9.small6 {k:KK} (h:Za9 k) {p:KP} (hp:p=k.root∨p∈k.root.l):Zjr (Zd p):=by have:=h.small hp; exact ⟨by omega,by omega,by omega⟩
theorem ZmF (k:KK) (kf:Za9 k) (b c:Nat) (hb:b≤1000000) (hc:c≤1000000) (B:Nat) (w:World) (hin:k.In w B) (hB:B≤w.heap.size) :
  Calls Tryz.prog 27 #[.agg k.flat,.int .i64 b,.int .i64 c] w (Zu (.bool (ZY k b c)) w):=by
 have HKF:=Lh kf
 obtain ⟨W0,hW0⟩:∃ W0,w.alloc (.cells k.flat 34)=W0:=⟨_,rfl⟩
 have K0:Hid (Below w.heap.size w W0):=Lh (by rw [← hW0]; exact (Below.refl _ _).alloc (Nat.le_refl _) _);have HB0:Hid (Blk W0 w.heap.size 34 k.flat):=Lh (by rw [← hW0]; exact Blk.new _ _ _)
 have HIN:Hid (∀ W,Below w.heap.size w W→k.In W B∧B≤W.heap.size):=Lh fun W h=>⟨hin.below (h.mono hB),Nat.le_trans hB h.size⟩
 obtain ⟨R,hR⟩:∃ r,ZY k b c=r:=⟨_,rfl⟩
 have HR:=Lh hR;rw [hR]
 obtain ⟨np,hnp⟩:∃ n,k.procs.length=n:=⟨_,rfl⟩
 have HNP:=Lh hnp
 obtain ⟨nl,hnl⟩:∃ n,k.root.l.length=n:=⟨_,rfl⟩
 have HNL:=Lh hnl;have hps:=kf.ps;have hrl:=kf.rl;rw [hnp,hnl] at hps;rw [hnl] at hrl
 obtain ⟨PA,hPA⟩:∃ q,k.root.Al=q:=⟨_,rfl⟩
 have HPA:=Lh hPA;simp only [KK.flat,hnp,hnl,hPA] at hW0 HB0 ⊢
 have hnpb:np≤2048:=by omega
 have b0:=HB0.out;have hlt:=b0.lt;obtain ⟨d0,d1,d2,d3,d4,d5,d6,d7,d8,d9,d10⟩:=b0.c11;simp at d0 d1 d2 d3 d4 d5 d6 d7 d8 d9 d10;clear b0 hR hnp hnl hPA hin kf;go_enter Tryz.func27,Tryz.ntmps27
 go_upto_region 1 with fail
 clear hW0
 go_wp2_with fail
 go_loopw [7] (fun i wr=>∃ j:Nat,j≤np∧i = .int .i64 j∧Hid (Below w.heap.size w wr∧Blk wr w.heap.size 34 #[.slice k.Av k.vars.length k.cv,.slice k.Ac k.chans.length k.cc,.int .u8 k.root.kind,.int .i64 k.root.c,.int .i64 k.root.v,.int .u8 k.root.item,.slice k.root.At k.root.tos.length k.root.ct,.slice k.root.Ae k.root.e.length k.root.ce,.slice k.root.Ag k.root.g.length k.root.cg,.slice PA nl k.root.cl,.slice k.Ap np k.cp])∧Hid (Zbj k b c j=false)) (fun i _=>np - (intOf i).toNat)
 case atStart=>exact ⟨0,Nat.zero_le _,rfl,Lh ⟨K0.out,HB0.out⟩,Lh (by rw [Zbj])⟩
 case round =>
  clear d0 d1 d2 d3 d4 d5 d6 d7 d8 d9 d10 hlt HB0;obtain ⟨i,hi,rfl,HW,HF⟩:=hrel;have b0:=HW.out.2;have hlt:=b0.lt;obtain ⟨d0,d1,d2,d3,d4,d5,d6,d7,d8,d9,d10⟩:=b0.c11;simp at d0 d1 d2 d3 d4 d5 d6 d7 d8 d9 d10;clear b0
  by_cases hltj:i < np
  ·have hltI:(i:Int) < np:=by omega
   by_cases hib:i=b
   ·have yb:((i:Int) == (b:Int))=true:=by simp [hib]
    have HF2:Hid (Zbj k b c (i+1)=false):=Lh (by rw [Zbj,HF.out]; simp [hib]);clear hib
    go_wp2_with fail
    go_roundw
    case rel=>exact ⟨i+1,by omega,by go_num,HW,HF2⟩
    case measure=>simp [intOf]; omega
   ·have yb:((i:Int) == (b:Int))=false:=by simp; omega
    have hll:nl=np:=by omega
    have hin:=HIN.out wr HW.out.1;obtain ⟨bb,off,x,hA,hb2,hx,hmx,c0,c1,c2,c3,c4,c5,c6,c7⟩:=Za4 hin.1.2.2.1.one.2.2.2.2 rfl (k:=i) (by rw [HNL.out]; omega);have hbw:bb < wr.heap.size:=Nat.lt_of_lt_of_le hb2 hin.2;obtain rfl:PA=some ⟨bb,off,none⟩:=HPA.out.symm.trans hA
    have hltL:(i:Int) < nl:=by omega
    clear hll;have hall:=HKF.out.all (.inr hmx);have HAL:=Lh hall;have hsm:=HKF.out.small6 (.inr hmx)
    have HXI:Hid (∀ W,Below w.heap.size w W→x.In W B∧B≤W.heap.size):=Lh fun W h=>⟨(HIN.out W h).1.2.2.1.part hmx,(HIN.out W h).2⟩
    have HC:Hid (Calls Tryz.prog 23 #[.agg x.cells] wr (Zpa x wr)):=Lh (ZnN x (Zi6 hall) hsm B wr (HXI.out wr HW.out.1).1 hin.2);have hst:=Zii (b:=b) (c:=c) hx;rw [HF.out,Bool.false_or] at hst
    have hne:decide (i≠b)=true:=by simp [hib]
    rw [hne,Bool.true_and] at hst;have HST:=Lh hst;have hul:(Zd x).uses.length≤1000000:=hsm.2.1;simp only [KP.cells] at HC;clear hin hx hmx hA hall hsm hst hne hib
    go_upto_region 6 with (go_at_call 23; (with_reducible refine HC.out.mono ?_); rintro e9 w3 ⟨bw,s3,rfl,HP3,HL3,HK3⟩
                           obtain ⟨n,hn⟩:∃ n,s3.pl.uses.length=n:=⟨_,rfl⟩
                           have HN:=Lh hn;have b3:=HL3.out.blk;obtain ⟨Au,cu,hvu⟩:=Zv HL3.out.us;have hou:=HL3.out.us;rw [hvu,hn] at b3 hou;have hl3:=b3.lt;obtain ⟨e0,e1,e2⟩:=b3.c3;simp at e0 e1 e2;have HRD:Hid (Zo w3 w3.heap.size 9 Au n (Zh5 s3.pl.uses)):=Lh (Zo.of_own hou)
                           clear b3 hvu hou hn)
    have K3:=Lh (HW.out.1.trans (HK3.out.mono HW.out.1.size));have B3:=Lh (HW.out.2.call HK3.out);rw [← HP3.out,HN.out] at hul;have HST2:Hid (Zbj k b c (i+1)=s3.pl.uses.any fun u=>(Zau u.1).contains (c:Int)):=Lh (by rw [HST.out,HP3.out]; rfl)
    have HUI:Hid (∀ u∈s3.pl.uses,∀ W,Below w.heap.size w W→u.1.In W B):=Lh fun u hu W h=>by
     have:=(HXI.out W h).1;rw [HP3.out] at hu;exact Zh4 this u hu
    clear e0 e1 e2 hl3 HST HP3 HL3 HC HAL
    go_wp2_with fail
    go_loopw [9] (fun i wq=>∃ j:Nat,j≤n∧i = .int .i64 j∧Hid (Below w3.heap.size w3 wq)∧Hid ((s3.pl.uses.take j).any (fun u=>(Zau u.1).contains (c:Int))=false)) (fun i _=>n - (intOf i).toNat)
    case atStart=>exact ⟨0,Nat.zero_le _,rfl,Lh (Below.refl _ _),Lh (by simp)⟩
    case round =>
     obtain ⟨j,hj,rfl,HQ,HG⟩:=hrel
     by_cases hlt4:j < n
     ·have hltI4:(j:Int) < n:=by omega
      obtain ⟨b5,off5,u,hA,hb5,hx,hmx,q0,q1,q2,q3,q4,q5,q6,q7,q8⟩:=ZiL (us:=s3.pl.uses) (by rw [HN.out]; exact HRD.out.below HQ.out) (k:=j) (by rw [HN.out]; exact hlt4);have hbw5:b5 < wr.heap.size:=Nat.lt_of_lt_of_le hb5 HQ.out.size;subst hA;have hkb:=K3.out.trans (HQ.out.mono K3.out.size)
      obtain ⟨r,hr⟩:∃ r,(Zau u.1).contains (c:Int)=r:=⟨_,rfl⟩
      have HRX:=Lh hr;have HX:=Lh hx;have HMX:=Lh hmx;have hc2:=Zhr u.1 (c:Int) B wr (by unfold Zy; omega) (HUI.out u hmx wr hkb) (Nat.le_trans hB hkb.size);rw [Zhi,hr] at hc2;have HC2:=Lh hc2;simp only [KP.cells] at HC2;clear hc2 hr hx hmx hkb
      cases r with
      | true =>
        have hR:R=true:=by
         rw [← HR.out]
         have h1:Zbj k b c (i+1)=true:=by rw [HST2.out,List.any_eq_true]; exact ⟨u,HMX.out,HRX.out⟩
         unfold ZY
         have h0:¬ k.procs.length=0:=by rw [HNP.out]; omega
         rw [if_neg h0];exact ZhB h1 (by rw [HNL.out]; omega)
        have HRR:=Lh hR;clear hR
        go_wp2_with (first
         | (go_at_call 28; (with_reducible refine HC2.out.mono ?_); rintro e9 w4 ⟨rfl,k4⟩
            have HK4:=Lh k4
            clear k4))
        go_ret;have hx:=K3.out.trans (HQ.out.mono K3.out.size);exact ⟨by rw [HRR.out]; rfl,hx.trans (HK4.out.mono hx.size)⟩
      | false =>
        have HG2:Hid ((s3.pl.uses.take (j+1)).any (fun u=>(Zau u.1).contains (c:Int))=false):=Lh (by rw [ZM HX.out,List.any_append,HG.out,List.any_cons,HRX.out]; rfl)
        go_wp2_with (first
         | (go_at_call 28; (with_reducible refine HC2.out.mono ?_); rintro e9 w4 ⟨rfl,k4⟩
            have HK4:=Lh k4
            clear k4))
        go_roundw
        case rel=>exact ⟨j+1,by omega,by go_num,Lh (HQ.out.trans (HK4.out.mono HQ.out.size)),HG2⟩
        case measure=>simp [intOf]; omega
     ·have hltI4:¬ (j:Int) < n:=by omega
      obtain rfl:n=j:=by omega
      have HF2:Hid (Zbj k b c (i+1)=false):=Lh (by rw [HST2.out,← HG.out,List.take_of_length_le (by rw [HN.out]; omega)])
      go_wp2_with fail
      go_roundw
      case rel=>exact ⟨i+1,by omega,by go_num,Lh ⟨K3.out.trans (HQ.out.mono K3.out.size),B3.out.call HQ.out⟩,HF2⟩
      case measure=>simp [intOf]; omega
  ·have hltI:¬ (i:Int) < np:=by omega
   obtain rfl:np=i:=by omega
   have hR:R=false:=by
    rw [← HR.out];unfold ZY
    split
    ·rfl
    ·rename_i h0;rw [HNP.out] at h0
     have:k.root.l.length=np:=by rw [HNL.out]; omega
     rw [this];exact HF.out
   have HRR:=Lh hR;clear hR
   go_wp2_with fail
   go_ret;exact ⟨by rw [HRR.out]; rfl,HW.out.1⟩
theorem add0 (g i:Nat):(⟨g,0,none⟩:Addr).add i=⟨g,i,none⟩:=by unfold Addr.add; split <;> simp_all
theorem Zj3 {w:World} {g:Nat} {l:List Int} (h:Blk w g 3 (ZV l)):Zo w w.heap.size 1 (some ⟨g,0,none⟩) l.length (ZO l):=by
 refine ⟨by simp [ZO],fun _=>⟨_,rfl,h.lt,fun i u hu=>?_⟩⟩;rw [add0,h.cell];unfold ZV;rw [List.getElem?_toArray];exact hu
theorem Zg6 {w:World} {g:Nat} {l:List Int} (h:Blk w g 3 (ZV l)) (hl:l.length≤1000000) (hv:∀ v∈l,Zy v):Zbf w w.heap.size (some ⟨g,0,none⟩) l:=⟨by unfold ZB; omega,Zj3 h,hv⟩
theorem ZoU (l:List FrL):(Zem l).length=l.length * 5:=by
 induction l with
 | nil=>rfl
 | cons x l ih=>show (x.cells++Zem l).length=_; rw [List.length_append,ih,FrL.cells_len,List.length_cons]; omega
theorem ZhP {w:World} {g:Nat} {l:List FrL} (h:Zfg w g l):Zo w w.heap.size 5 (some ⟨g,0,none⟩) l.length (Zem l):=by
 refine ⟨ZoU l,fun _=>⟨_,rfl,h.lt,fun i u hu=>?_⟩⟩;obtain ⟨cur,hb,hc⟩:=h;rw [add0,hb.cell];exact hc i u hu
theorem InR.i64 {n:Nat} {m:List Int} (h:InR n m) (hn:n≤1000000):∀ v∈m,Zy v:=fun v hv=>by
 have:=h v hv;unfold Zy
 omega
theorem ZbO {start:Int→Nat} {ins:List Int} {sz:List Nat} {M:Nat} (hs:∀ x∈sz,x≤M) (h1:∀ f,start f≤1000000) (h2:ins.length * M≤1000000):∀ v∈Zbq start ins sz,Zy v:=fun v hv=>by
 unfold Zbq at hv;obtain ⟨i,hi,rfl⟩:=List.mem_map.1 hv;rw [List.mem_range] at hi;have h3:=ZbF ins sz M hs (ins.getD i (-1)) i;have h4:=h1 (ins.getD i (-1));have h5:i * M≤ins.length * M:=Nat.mul_le_mul_right _ (by omega);unfold Zy
 split <;> omega
theorem Zfh (n:Int):Zy (wrap64 n):=by unfold Zy wrap64; omega
theorem ZpI {a b:Int} (ha:Zy a) (hb:Zy b):Zy (max a b):=by unfold Zy at *; omega
theorem Zmp {q:Int×List FrL} (h:Zy q.1∧∀ x∈q.2,x.Ok) (f:Nat):Zy (Za6 q f).1∧∀ x∈(Za6 q f).2,x.Ok:=by
 obtain ⟨h1,h2⟩:=h
 have hdef:(default:FrL).Ok:=by unfold FrL.Ok Zy; decide
 have get:∀ (l:List FrL) (k:Nat),(∀ x∈l,x.Ok)→(l.getD k default).Ok:=fun l k hl=>by
  rw [List.getD_eq_getElem?_getD]
  cases hx:l[k]? with
  | none=>exact hdef
  | some x=>exact hl x (List.mem_of_getElem? hx)
 have set:∀ (l:List FrL) (k:Nat) (x:FrL),(∀ x∈l,x.Ok)→x.Ok→∀ y∈l.set k x,y.Ok:=fun l k x hl hx y hy=>by
  rcases List.mem_or_eq_of_mem_set hy with hy | rfl
  ·exact hl y hy
  ·exact hx
 have hx:=get q.2 f h2;have hset:=set q.2 f ⟨(q.2.getD f default).parent,wrap64 (q.1+(q.2.getD f default).above),(q.2.getD f default).above,(q.2.getD f default).below,(q.2.getD f default).temp⟩ h2 ⟨hx.1,Zfh _,hx.2.2.1,hx.2.2.2.1,hx.2.2.2.2⟩;have hy:=get _ (q.2.getD f default).parent.toNat hset;unfold Za6;exact ⟨Zfh _,set _ _ _ hset ⟨hy.1,hy.2.1,hy.2.2.1,ZpI hy.2.2.2.1 (Zfh _),hy.2.2.2.2⟩⟩
theorem Zi9:∀ (g:List Nat) {q:Int×List FrL},(Zy q.1∧∀ x∈q.2,x.Ok)→Zy (g.foldl Za6 q).1∧∀ x∈(g.foldl Za6 q).2,x.Ok
 | [],q,h=>h
 | f :: g,q,h=>Zi9 g (Zmp h f)
theorem ZfS:∀ (gs:List (List Nat)) {fr:List FrL},(∀ x∈fr,x.Ok)→∀ x∈gs.foldl Zbc fr,x.Ok
 | [],fr,h=>h
 | g :: gs,fr,h=>ZfS gs (Zi9 g (q:=(5,fr)) ⟨by unfold Zy; omega,h⟩).2
theorem ZnY {w:Zr} (ht:Zak w) {nx tp:Nat→Nat} (hl:w.par.length≤1000000) (h1:∀ f,nx f≤1000000) (h2:∀ f,tp f≤1000000) (j:Nat):∀ x∈frJ w.par nx tp j,x.Ok:=fun x hx=>by
 obtain ⟨f,hf⟩:=List.mem_iff_getElem?.1 hx
 have hfl:f < w.par.length:=by have:=(List.getElem?_eq_some_iff.1 hf).1; rwa [Ziu] at this
 have hp:-1≤w.par.getD f (-1)∧w.par.getD f (-1) < w.par.length:=by
  by_cases h0:f=0
  ·subst h0;rw [List.getD_eq_getElem?_getD,ht.root]
   simp
   omega
  ·have:=ht.parent (a:=(f:Int)) (by omega) (by omega);unfold upW at this;rw [Int.toNat_natCast] at this
   omega
 unfold frJ at hf;rw [Zc1 _ hfl] at hf;obtain rfl:=Option.some.inj hf;have a1:=h1 f;have a2:=h2 f
 split <;> exact ⟨by simp only; unfold Zy; omega,by simp only; unfold Zy; omega,by simp only; unfold Zy; omega,by simp only; unfold Zy; omega,by simp only; unfold Zy; omega⟩
section
structure MkK (k:KK) (p:KP) (B S0 bw bo go bs g1 g2 g3 g4 nv nc q0 q1:Nat) (outs:List Bool) (w7:World):Prop where
 hS0:w7.heap.size=S0
 hB:B≤S0
 kin:k.In w7 B
 pin:∀ W,k.In W B→p.In W B
 all:p.all (fun x=>ZW k.vars nc x=true)
 sm:(Zd p).par.length≤2048∧(Zd p).uses.length≤2048∧(Zd p).grp.length≤2048
 qt:ZP w7
 qB:Zae < B
 bpl:Blk w7 bw 57 #[.slice none 0 0,.slice none 0 0,.slice none 0 0]
 bbp:Blk w7 (bw+1) 54 #[.pointer (some ⟨bw,0,none⟩)]
 xbo:Blk w7 bo 50 #[.slice (some ⟨go,0,none⟩) nc nc]
 xbg:Blk w7 go 4 (ZaG outs)
 xbs:Blk w7 bs 38 #[.slice none 0 0,.slice (some ⟨g1,0,none⟩) nv nv,.slice (some ⟨g2,0,none⟩) nv nv,.slice (some ⟨g3,0,none⟩) nc nc,.slice (some ⟨g4,0,none⟩) nc nc]
 x1:Blk w7 g1 3 (ZV (List.replicate nv (-1)))
 x2:Blk w7 g2 3 (ZV (List.replicate nv (-1)))
 x3:Blk w7 g3 3 (ZV (List.replicate nc (-1)))
 x4:Blk w7 g4 3 (ZV (List.replicate nc (-1)))
 ne:g1≠g2∧g1≠g3∧g1≠g4∧g2≠g3∧g2≠g4∧g3≠g4
 g0:Blk w7 q0 54 #[.pointer (some ⟨bw,0,none⟩)]
 gq:Blk w7 q1 31 p.cells
 kv:k.vars.length=nv
 ol:outs.length=nc
 nv:nv≤256
 nc:nc≤64
 lo:B≤bw∧B≤g1∧B≤g2∧B≤g3∧B≤g4
section
variable {k:KK} {p:KP} {B S0 bw bo go bs g1 g2 g3 g4 nv nc q0 q1:Nat} {outs:List Bool} {w7:World}
theorem MkK.lt (h:MkK k p B S0 bw bo go bs g1 g2 g3 g4 nv nc q0 q1 outs w7):bw < S0∧g2 < S0∧g4 < S0∧g2≠bw∧g4≠bw:=by
 rw [← h.hS0];exact ⟨h.bpl.lt,h.x2.lt,h.x4.lt,h.x2.ne_ h.bpl (by decide),h.x4.ne_ h.bpl (by decide)⟩
theorem MkK.start (h:MkK k p B S0 bw bo go bs g1 g2 g3 g4 nv nc q0 q1 outs w7):MkJ S0 bw g2 g4 nv nc (Zd p).par outs w7 [] w7:=⟨Zl.of (Below.refl _ _),h.x2,h.x4⟩
section
variable {par:List Int} {us:List (KP×Nat)} {W:World}
theorem MkK.stay (h:MkK k p B S0 bw bo go bs g1 g2 g3 g4 nv nc q0 q1 outs w7) (j:MkJ S0 bw g2 g4 nv nc par outs w7 us W) {g:Nat} {t:TypeId} {cs:Array Value} (hg:Blk w7 g t cs) (n1:t≠57) (n2:t≠3):Blk W g t cs :=
 j.bel.blk hg (by rw [← h.hS0]; exact hg.lt) fun hX=>by
  rcases hX with e | e | e
  ·exact hg.ne_ h.bpl n1 e
  ·exact hg.ne_ h.x2 n2 e
  ·exact hg.ne_ h.x4 n2 e
theorem MkK.below (h:MkK k p B S0 bw bo go bs g1 g2 g3 g4 nv nc q0 q1 outs w7) (j:MkJ S0 bw g2 g4 nv nc par outs w7 us W):Below B w7 W :=
 j.bel.below h.hB fun k hk=>by have:=h.lo; rcases hk with rfl | rfl | rfl <;> omega
theorem MkK.proc (h:MkK k p B S0 bw bo go bs g1 g2 g3 g4 nv nc q0 q1 outs w7) (j:MkJ S0 bw g2 g4 nv nc par outs w7 us W):ZmS p B bw q0 q1 W :=
 ⟨h.pin _ (h.kin.below (h.below j)),h.stay j h.g0 (by decide) (by decide),h.stay j h.gq (by decide) (by decide)⟩
end
section
variable {s:PlS} {q:KP} {f l:Nat} {W WA W2 W3 W4:World}
theorem MkK.body (h:MkK k p B S0 bw bo go bs g1 g2 g3 g4 nv nc q0 q1 outs w7) (hi2:MkJ S0 bw g2 g4 nv nc (Zd p).par outs w7 s.pl.uses W2) (hat2:ZH S0 bw (ZJ Zf) s W2) (htree:Zak s.pl) (hx2:f < s.pl.par.length) (hpre:s.pl.par <+: (Zd p).par) (hmem:(q,f)∈(Zd p).uses)
  {bf:Nat} (hbf:S0≤bf) (bf2:Blk W2 bf 3 #[.int .i64 f]) (k3:Below W2.heap.size W2 W3) (bn3:Blk W3 W2.heap.size 3 #[.int .i64 1]) :
  ZhZ q k.vars nc B S0 bw (bw+1) bo go bs g2 g4 W2.heap.size bf f (ZJ Zf) s (Zd p).par outs (Zhh (Zd p).par s.pl.uses (List.replicate nv (-1))) (Zcv outs s.pl.uses (List.replicate nc (-1))) (.slice none 0 0) (.slice (some ⟨g1,0,none⟩) nv nv) (.slice (some ⟨g3,0,none⟩) nc nc) nv nc nc W3:=by
 obtain ⟨l1,l2,l3,l4,l5⟩:=h.lt;have hS2:S0≤W2.heap.size:=hat2.hi;have hB:=h.hB;have hlo:=h.lo;have hne:=h.ne;have hfl:=bf2.lt;have hqin:q.In W2 B:=ZaS (ZnW (h.proc hi2).1) (q,f) hmem;have hq2:ZP W2:=h.qt.below (h.below hi2) h.qB;have hsm:=h.sm;have hpl:=ZI hpre;have hxbs:=(h.stay hi2 h.xbs (by decide) (by decide)).call k3
 refine ⟨hqin.below (k3.mono (by omega)),Nat.le_trans (by omega) k3.size,hq2.below k3 hq2.lt,h.qB,ZaS h.all (q,f) hmem,hat2.call k3,htree,hx2,by omega,hpre,(h.stay hi2 h.bbp (by decide) (by decide)).call k3,(h.stay hi2 h.xbo (by decide) (by decide)).call k3,(h.stay hi2 h.xbg (by decide) (by decide)).call k3,?_,hi2.b2.call k3,hi2.b4.call k3,bn3,bf2.call k3,h.ol,by rw [Ze9,List.length_replicate,h.kv],by rw [ZfZ,List.length_replicate],
  ZeA htree hpre s.pl.uses _ htree.uses (InR.rep _ _),by rw [h.kv]; exact h.nv,h.nc,by omega,by omega,fun k hk=>⟨by omega,fun hr=>?_⟩⟩
 ·rw [h.kv]; exact hxbs
 ·have:=hat2.row_lt hr hat2.gp.len
  omega
theorem Zic (hat:ZH S0 bw (ZJ Zf) s W) (hi:MkJ S0 bw g2 g4 nv nc (Zd p).par outs w7 s.pl.uses W) (h:MkK k p B S0 bw bo go bs g1 g2 g3 g4 nv nc q0 q1 outs w7) (hsW:S0+2≤W.heap.size) (kA:Below W.heap.size W WA) (kAd:Z0 (fun _=>False) W WA) (hgr:WA.grownBy W2 (some l)) (hl0:S0≤l) (hk2:Z0 (fun _=>False) WA W2) :
  MkJ S0 bw g2 g4 nv nc (Zd p).par outs w7 s.pl.uses W2∧ZH S0 bw (ZJ Zf) s W2:=by
 obtain ⟨l1,l2,l3,l4,l5⟩:=h.lt;have kE:Below S0 W W2:=(kA.mono (by omega)).trans ⟨hgr.os,hgr.tape,hgr.output,hgr.size,fun k hk=>hgr.block k (by have:=kA.size; omega) (fun e=>by injection e with e; omega)⟩;exact ⟨hi.deep ⟨l2,l4⟩ ⟨l3,l5⟩ (Zl.of kE),hat.keepC (kAd.trans hk2)⟩
structure TmpAt (S0 bw gt f cap n:Nat) (s:PlS) (q:KP) (nb bf:Nat) (W:World):Prop where
 bbp:Blk W (bw+1) 54 #[.pointer (some ⟨bw,0,none⟩)]
 bpl:Blk W bw 57 #[s.vf,.slice (some ⟨gt,0,none⟩) n cap,s.vg]
 bn:Blk W nb 3 #[.int .i64 ((Zal Zf q:Nat):Int)]
 bf:Blk W bf 3 #[.int .i64 f]
 tc:W.cell? ⟨gt,f,none⟩=some (.int .i64 ((ZJ Zf s.pl.uses f:Nat):Int))
 tf:W.frozen? ⟨gt,f,none⟩=false
 gl:gt < W.heap.size
 fn:f < n
 sm:ZJ Zf s.pl.uses f≤1000000∧Zal Zf q≤1000000∧n≤1000000
theorem Zfa {vs:List ZZ} {nc:Nat}:∀ (us:List (KP×Nat)),(∀ u∈us,ZW vs nc u.1=true)→∀ f,ZJ Zf us f≤12289:=by
 intro us hus f
 have key:∀ (l:List (KP×Nat)) (m:Nat),(∀ u∈l,ZW vs nc u.1=true)→m≤12289→l.foldl (fun m u=>if u.2=f then max m (Zal Zf u.1) else m) m≤12289:=by
  intro l
  induction l with
  | nil=>intro m _ hm; exact hm
  | cons u l ih =>
    intro m hl hm;rw [List.foldl_cons];refine ih _ (fun x hx=>hl x (by simp [hx])) ?_;have:=Zhc (hl u (by simp))
    split <;> omega
 exact key us 0 hus (by omega)
theorem MkK.tmp (h:MkK k p B S0 bw bo go bs g1 g2 g3 g4 nv nc q0 q1 outs w7) {bf:Nat} {m0 c0:List Int} (hba:ZhZ q k.vars nc B S0 bw (bw+1) bo go bs g2 g4 W2.heap.size bf f (ZJ Zf) s (Zd p).par outs m0 c0 (.slice none 0 0) (.slice (some ⟨g1,0,none⟩) nv nv) (.slice (some ⟨g3,0,none⟩) nc nc) nv nc nc W3)
  (hi:Zf7 g2 g4 W2.heap.size f (Zd p).par outs m0 c0 W3 (evP q) W4) (hus:s.pl.uses++[(q,f)] <+: (Zd p).uses) :
  ∃ gt cap,s.vt = .slice (some ⟨gt,0,none⟩) s.pl.par.length cap∧TmpAt S0 bw gt f cap s.pl.par.length s q W2.heap.size bf W4∧ZH S0 bw (ZJ Zf) s W4:=by
 have hpl:ZH S0 bw (ZJ Zf) s W4:=hba.hpl.keepE hi.bel hba.d3;obtain ⟨gt,cap,hv,hb,hlt⟩:=hpl.tm.form hba.ht.pos
 have hown:s.vt.ownBlock=some gt:=by rw [hv]; rfl
 obtain ⟨ct,hct⟩:=ZN hpl.tm hown;have hc:=hpl.tm.cells (g:=gt) hown f (Zmc (ZJ Zf s.pl.uses f)) (by unfold ZbS; rw [List.getElem?_map,Zc1 _ hba.hf]; rfl);rw [add0] at hc;have hd:=hba.d2
 have hbp:=hi.bel.blk hba.xbp hba.xbp.lt fun hX=>by
  rcases hX with e | e | e
  ·exact hba.xbp.ne_ hba.xb2 (by decide) e
  ·exact hba.xbp.ne_ hba.xb4 (by decide) e
  ·exact hba.xbp.ne_ hba.xbn (by decide) e
 have hbl:=hpl.blk;rw [hv] at hbl;have hall:∀ u∈s.pl.uses,ZW k.vars nc u.1=true:=fun u hu=>ZaS h.all u (by obtain ⟨t,ht⟩:=hus; rw [← ht]; simp [hu]);have h1:=Zfa s.pl.uses hall f;have h2:=Zhc hba.hok;refine ⟨gt,cap,hv,⟨hbp,hbl,?_,hi.bel.blk hba.xbf hba.xbf.lt fun hX=>by omega,hc,hct.frozen f,hct.lt,hba.hf,by omega,by omega,hba.hl⟩,hpl⟩;have:=hi.bn;rw [ZlO,← Zey] at this;exact this
theorem MkK.left (h:MkK k p B S0 bw bo go bs g1 g2 g3 g4 nv nc q0 q1 outs w7) {gt cap n:Nat} (hi2:MkJ S0 bw g2 g4 nv nc (Zd p).par outs w7 s.pl.uses W2) (hS2:S0≤W2.heap.size) (k3:Below W2.heap.size W2 W3)
  (hi:Zf7 g2 g4 W2.heap.size f (Zd p).par outs (Zhh (Zd p).par s.pl.uses (List.replicate nv (-1))) (Zcv outs s.pl.uses (List.replicate nc (-1))) W3 (evP q) W4) (hv:s.vt = .slice (some ⟨gt,0,none⟩) n cap) (hpl:ZH S0 bw (ZJ Zf) s W4) (hf:f < s.pl.par.length) :
  Z0 (XS S0 bw s) W2 (W4.setCell ⟨gt,f,none⟩ (.int .i64 ((max (ZJ Zf s.pl.uses f) (Zal Zf q):Nat):Int))).drew∧KeepsOthers W2 (W4.setCell ⟨gt,f,none⟩ (.int .i64 ((max (ZJ Zf s.pl.uses f) (Zal Zf q):Nat):Int))).drew ∧
   MkJ S0 bw g2 g4 nv nc (Zd p).par outs w7 (s.pl.uses++[(q,f)]) (W4.setCell ⟨gt,f,none⟩ (.int .i64 ((max (ZJ Zf s.pl.uses f) (Zal Zf q):Nat):Int))).drew ∧
   ZH S0 bw (ZJ Zf) (Zoc s (q,f)) (W4.setCell ⟨gt,f,none⟩ (.int .i64 ((max (ZJ Zf s.pl.uses f) (Zal Zf q):Nat):Int))).drew:=by
 obtain ⟨l1,l2,l3,l4,l5⟩:=h.lt
 have hown:s.vt.ownBlock=some gt:=by rw [hv]; rfl
 have hgt:=hpl.tm.lt gt hown;obtain ⟨ct,hct⟩:=ZN hpl.tm hown;have hp2:=hpl.temp (q:=q) hf hown;generalize (Value.int .i64 ((max (ZJ Zf s.pl.uses f) (Zal Zf q):Nat):Int))=v at *
 have hbi:Zf7 g2 g4 W2.heap.size f (Zd p).par outs (Zhh (Zd p).par s.pl.uses (List.replicate nv (-1))) (Zcv outs s.pl.uses (List.replicate nc (-1))) W2 (evP q) W4 :=
  ⟨⟨hi.bel.os.trans k3.os,hi.bel.tape.trans k3.tape,hi.bel.output.trans k3.output,Nat.le_trans k3.size hi.bel.size,fun i hi1 hx=>(hi.bel.block i (Nat.lt_of_lt_of_le hi1 k3.size) hx).trans (k3.block i hi1)⟩,hi.b2,hi.b4,hi.bn⟩
 have hj:=hi2.next hS2 hS2 hbi;have far:∀ i,i≠gt→(W4.setCell ⟨gt,f,none⟩ v).heap[i]? = W4.heap[i]?:=fun i hi=>Below.heap_setCell _ _ _ i hi;have keep:∀ i,i < W2.heap.size→i≠g2→i≠g4→i≠gt→(W4.setCell ⟨gt,f,none⟩ v).heap[i]? = W2.heap[i]?:=fun i h1 h2 h3 h4=>(far i h4).trans (hbi.bel.block i h1 fun hX=>by omega)
 have hsize:W2.heap.size≤(W4.setCell ⟨gt,f,none⟩ v).heap.size:=by have:=hbi.bel.size; simpa using this
 refine ⟨⟨hsize,fun i cs t fr hn ho=>?_⟩,⟨hsize,fun i o ho hc=>?_⟩,?_,hp2.call (Below.refl _ _).drew⟩
 ·refine (keep i (Array.getElem?_eq_some_iff.1 ho).1 (fun e=>hn (.inl (by omega))) (fun e=>hn (.inl (by omega))) fun e=>hn (.inr (by rw [e]; exact hown))).trans ho
 ·have hb2:=hi2.b2;have hb4:=hi2.b4;unfold Blk at hb2 hb4;have hlt:=(Array.getElem?_eq_some_iff.1 ho).1;refine (keep i hlt (fun e=>?_) (fun e=>?_) fun e=>?_).trans ho
  ·rw [← e,ho] at hb2; injection hb2 with hb2; subst hb2; cases hc
  ·rw [← e,ho] at hb4; injection hb4 with hb4; subst hb4; cases hc
  ·by_cases hg2:i=g2
   ·rw [← hg2,ho] at hb2; injection hb2 with hb2; subst hb2; cases hc
   ·by_cases hg4:i=g4
    ·rw [← hg4,ho] at hb4; injection hb4 with hb4; subst hb4; cases hc
    ·have:=hbi.bel.block i hlt fun hX=>by omega
     rw [e] at this;unfold Blk at hct;rw [hct,← e,ho] at this
     injection this with this
     subst this
     cases hc
 ·have hd:MkJ S0 bw g2 g4 nv nc (Zd p).par outs w7 (s.pl.uses++[(q,f)]) (W4.setCell ⟨gt,f,none⟩ v) :=
   ⟨hj.bel.store v (.inr hgt.1),Zk hj.b2 (by show g2≠gt; omega),Zk hj.b4 (by show g4≠gt; omega)⟩
  exact ⟨⟨hd.bel.os,hd.bel.tape,hd.bel.output,hd.bel.size,hd.bel.block⟩,hd.b2,hd.b4⟩
end
end
end
section
theorem Zfq (outs:List Bool) {n:Nat} (hn:0 < n):∀ (cs m:List Int),InR n m→InR n (cs.foldl (Zcd outs) m)
 | [],m,h=>h
 | c :: cs,m,h=>by
   rw [List.foldl_cons];refine Zfq outs hn cs _ ?_;unfold Zcd
   split
   ·exact h
   ·intro x hx
    rcases List.mem_or_eq_of_mem_set hx with hx | rfl
    ·exact h x hx
    ·omega
theorem ZfY (outs:List Bool) {n:Nat} (hn:0 < n):∀ (us:List (KP×Nat)) (m:List Int),InR n m→InR n (Zcv outs us m)
 | [],m,h=>h
 | u :: us,m,h=>ZfY outs hn us _ (Zfq outs hn (Zau u.1) m h)
section
variable {k:KK} {p:KP} {B S0 bw bo go bs g1 g2 g3 g4 nv nc q0 q1:Nat} {outs:List Bool} {w7 W:World} {s:PlS}
def Zd5 (p:KP) (nv:Nat):List Int:=Zhh (Zd p).par (Zd p).uses (List.replicate nv (-1))
def Ze8 (p:KP) (outs:List Bool) (nc:Nat):List Int:=Zcv outs (Zd p).uses (List.replicate nc (-1))
theorem Zfl (p:KP) (nv:Nat):(Zd5 p nv).length=nv:=by unfold Zd5; rw [Ze9,List.length_replicate]
theorem ZfW (p:KP) (outs:List Bool) (nc:Nat):(Ze8 p outs nc).length=nc:=by unfold Ze8; rw [ZfZ,List.length_replicate]
theorem ZcB (p:KP) (nv:Nat):InR (Zd p).par.length (Zd5 p nv):=ZeA (Zas p) (List.prefix_refl _) _ _ (Zas p).uses (InR.rep _ _)
theorem ZcJ (p:KP) (outs:List Bool) (nc:Nat):InR (Zd p).par.length (Ze8 p outs nc):=ZfY outs (Zas p).pos _ _ (InR.rep _ _)
theorem MkK.lay (h:MkK k p B S0 bw bo go bs g1 g2 g3 g4 nv nc q0 q1 outs w7) (hj:MkJ S0 bw g2 g4 nv nc (Zd p).par outs w7 (Zd p).uses W) (hp:ZH S0 bw (ZJ Zf) s W) (hs:s.pl=Zd p) (hd:∀ x∈k.vars,0≤x.dim∧x.dim≤64) :
  ∃ gf gt cf ct,s.vf = .slice (some ⟨gf,0,none⟩) (Zd p).par.length cf∧S0≤gf∧Zpf k B S0 bw bs gf gt g1 g2 g3 g4 (Zd p).par.length nv nc cf ct nv nv nc nc (ZJ Zf) s (Zd5 p nv) (Ze8 p outs nc) (.slice none 0 0) W:=by
 have ht:Zak s.pl:=by rw [hs]; exact Zas p
 have hpos:=ht.pos;obtain ⟨gf,cf,hvf,hgf,hgfl⟩:=hp.fr.form hpos;obtain ⟨gt,ct,hvt,hgt,hgtl⟩:=hp.tm.form hpos;rw [hs] at hvf hvt;obtain ⟨l1,l2,l3,l4,l5⟩:=h.lt;have hsm:=h.sm;have hne:=h.ne;have hlo:=h.lo;have hB:=h.hB
 have h1l:g1 < S0:=by rw [← h.hS0]; exact h.x1.lt
 have h3l:g3 < S0:=by rw [← h.hS0]; exact h.x3.lt
 have h1b:g1≠bw:=h.x1.ne_ h.bpl (by decide);have h3b:g3≠bw:=h.x3.ne_ h.bpl (by decide)
 refine ⟨gf,gt,cf,ct,hvf,hgf,⟨h.kin.below (h.below hj),Nat.le_trans hB hp.hi,hp,hvf,hvt,ht,by rw [hs],by omega,by rw [hs]; omega,fun g hg=>?_,h.stay hj h.xbs (by decide) (by decide),
  hj.bel.blk h.x1 h1l fun hX=>by omega,hj.b2,hj.bel.blk h.x3 h3l fun hX=>by omega,hj.b4,Zfl p nv,h.kv,ZfW p outs nc,ZcB p nv,ZcJ p outs nc,h.nv,h.nc,hd,fun f=>?_,by omega,by omega⟩⟩
 ·have:=ZhO ht (by rw [hs]; exact ZiQ p) hg;rw [hs] at this
  omega
 ·rw [hs];exact Zfa _ (fun u hu=>ZaS h.all u hu) f
end
def ZeQ (q:ZdL×Int) (w:World) (e:Ending) (w':World):Prop:=∃ s:SpL,e = .returned (.tuple #[.agg s.cells,.int .i64 q.2])∧(s.fr=q.1.fr∧s.vat=q.1.vat∧s.vin=q.1.vin∧s.cat=q.1.cat∧s.cin=q.1.cin)∧s.In w' w'.heap.size∧Below w.heap.size w w'
theorem ZcC {vs:List ZZ} (hd:∀ x∈vs,0≤x.dim∧x.dim≤64) (ins:List Int) (f:Int) (i:Nat) (hi:i≤256):ZaN ins (Zz vs) f i≤16384:=by
 have:=ZbF ins (Zz vs) 64 (Zb3 hd) f i
 omega
theorem ZfQ {w:Zr} {tp:Nat→Nat} {vin cin:List Int} {vs:List ZZ} {nc:Nat}:(Zdf tp vin cin vs nc w).length=w.par.length:=(Zdw w.grp (Zit w.par (ZaA vin cin vs nc) tp w.par.length)).1
def Zdb:Array Value:=#[.slice none 0 0,.slice none 0 0,.slice none 0 0,.slice none 0 0,.slice none 0 0]
theorem Zbe {w w':World} {n:Int} (h:Below w.heap.size w w'):ZeQ (ZaJ,n) w (.returned (.tuple #[.agg Zdb,.int .i64 n])) w':=by
 have hr:∀ size:Nat,Zo w' w'.heap.size size none 0 []:=fun size=>by
  exact Zo.none_
 refine ⟨⟨none,0,[],none,0,[],none,0,[],none,0,[],none,0,[]⟩,rfl,⟨rfl,rfl,rfl,rfl,rfl⟩,?_,h⟩
 have hi:Zbf w' w'.heap.size none []:=⟨by unfold ZB; simp,hr 1,fun v hv=>by cases hv⟩
 exact ⟨⟨by unfold ZB; simp,hr 5,fun x hx=>by cases hx⟩,hi,hi,hi,hi⟩
theorem Zdu {w w1:World} {g:Nat} {t:TypeId} (hb:Below w.heap.size w w1) (h:Blk w1 g t Zdb) (hg:w.heap.size≤g) (v0 v1 v2 v3 v4:Value) :
  Below w.heap.size w (((((w1.setCell ⟨g,0,none⟩ v0).setCell ⟨g,1,none⟩ v1).setCell ⟨g,2,none⟩ v2).setCell ⟨g,3,none⟩ v3).setCell ⟨g,4,none⟩ v4) ∧
  Blk (((((w1.setCell ⟨g,0,none⟩ v0).setCell ⟨g,1,none⟩ v1).setCell ⟨g,2,none⟩ v2).setCell ⟨g,3,none⟩ v3).setCell ⟨g,4,none⟩ v4) g t #[v0,v1,v2,v3,v4] ∧
  ∀ i,i≠g→(((((w1.setCell ⟨g,0,none⟩ v0).setCell ⟨g,1,none⟩ v1).setCell ⟨g,2,none⟩ v2).setCell ⟨g,3,none⟩ v3).setCell ⟨g,4,none⟩ v4).heap[i]? = w1.heap[i]?:=by
 refine ⟨((((hb.setCell hg _).setCell hg _).setCell hg _).setCell hg _).setCell hg _,?_,fun i hi=>?_⟩
 ·have:=((((h.set_ 0 v0).set_ 1 v1).set_ 2 v2).set_ 3 v3).set_ 4 v4
  simpa [Zdb] using this
 ·exact (Below.heap_setCell _ _ _ i hi).trans ((Below.heap_setCell _ _ _ i hi).trans ((Below.heap_setCell _ _ _ i hi).trans ((Below.heap_setCell _ _ _ i hi).trans (Below.heap_setCell _ _ _ i hi))))
structure MkE (k:KK) (b:Nat) (bs gf g1 g2 g3 g4 cf Dn:Nat) (w W:World):Prop where
 bel:Below w.heap.size w W
 res:Blk W (w.heap.size+1) 38 Zdb
 xbs:Blk W bs 38 #[.slice (some ⟨gf,0,none⟩) (Zd (Zh k b)).par.length cf,.slice (some ⟨g1,0,none⟩) k.vars.length k.vars.length,.slice (some ⟨g2,0,none⟩) k.vars.length k.vars.length,.slice (some ⟨g3,0,none⟩) k.chans.length k.chans.length,.slice (some ⟨g4,0,none⟩) k.chans.length k.chans.length]
 fr:Zfg W gf (Zs k b).fr
 h1:Blk W g1 3 (ZV (Zs k b).vat)
 h2:Blk W g2 3 (ZV (Zs k b).vin)
 h3:Blk W g3 3 (ZV (Zs k b).cat)
 h4:Blk W g4 3 (ZV (Zs k b).cin)
 dn:W.heap[Dn]? = some (.deferred (some []))
 dl:w.heap.size≤Dn
theorem Zg9 {W:World} {g Dn:Nat} {t:TypeId} {cs:Array Value} (hd:W.heap[Dn]? = some (.deferred (some []))) (h:Blk W g t cs):g≠Dn:=fun e=>by
 unfold Blk at h;rw [e,hd] at h
 cases h
theorem MkE.none {k:KK} {b bs gf g1 g2 g3 g4 cf Dn:Nat} {w W:World} {n:Int} (h:MkE k b bs gf g1 g2 g3 g4 cf Dn w W) :
  (((((W.setCell ⟨w.heap.size+1,0,none⟩ (.slice none 0 0)).setCell ⟨w.heap.size+1,1,none⟩ (.slice none 0 0)).setCell ⟨w.heap.size+1,2,none⟩ (.slice none 0 0)).setCell ⟨w.heap.size+1,3,none⟩ (.slice none 0 0)).setCell ⟨w.heap.size+1,4,none⟩ (.slice none 0 0)).heap[Dn]? = some (.deferred (some [])) ∧
  ∀ o,Blk ((((((W.setCell ⟨w.heap.size+1,0,none⟩ (.slice none 0 0)).setCell ⟨w.heap.size+1,1,none⟩ (.slice none 0 0)).setCell ⟨w.heap.size+1,2,none⟩ (.slice none 0 0)).setCell ⟨w.heap.size+1,3,none⟩ (.slice none 0 0)).setCell ⟨w.heap.size+1,4,none⟩ (.slice none 0 0)).putObj Dn o) (w.heap.size+1) 38 Zdb ∧
   ZeQ (ZaJ,n) w (.returned (.tuple #[.agg Zdb,.int .i64 n])) ((((((W.setCell ⟨w.heap.size+1,0,none⟩ (.slice none 0 0)).setCell ⟨w.heap.size+1,1,none⟩ (.slice none 0 0)).setCell ⟨w.heap.size+1,2,none⟩ (.slice none 0 0)).setCell ⟨w.heap.size+1,3,none⟩ (.slice none 0 0)).setCell ⟨w.heap.size+1,4,none⟩ (.slice none 0 0)).putObj Dn o):=by
 have hs:=Zdu h.bel h.res (Nat.le_succ _) (.slice Option.none 0 0) (.slice Option.none 0 0) (.slice Option.none 0 0) (.slice Option.none 0 0) (.slice Option.none 0 0);have hn:=Zg9 h.dn h.res;refine ⟨(hs.2.2 Dn (Ne.symm hn)).trans h.dn,fun o=>⟨(World.putObj_heap_other hn).trans hs.2.1,Zbe (hs.1.putObj h.dl o)⟩⟩
theorem Zkz {k:KK} {b:Nat} {w W':World} {gf g1 g2 g3 g4 cf:Nat} (kf:Za9 k) (hb:Zh k b=k.root∨Zh k b∈k.root.l) (hbel:Below w.heap.size w W')
  (hf:Zfg W' gf (Zs k b).fr) (h1:Blk W' g1 3 (ZV (Zs k b).vat)) (h2:Blk W' g2 3 (ZV (Zs k b).vin)) (h3:Blk W' g3 3 (ZV (Zs k b).cat)) (h4:Blk W' g4 3 (ZV (Zs k b).cin)) :
  ZeQ (Zs k b,0) w (.returned (.tuple #[.agg #[.slice (some ⟨gf,0,none⟩) (Zd (Zh k b)).par.length cf,.slice (some ⟨g1,0,none⟩) k.vars.length k.vars.length,.slice (some ⟨g2,0,none⟩) k.vars.length k.vars.length,.slice (some ⟨g3,0,none⟩) k.chans.length k.chans.length,.slice (some ⟨g4,0,none⟩) k.chans.length k.chans.length],.int .i64 0])) W':=by
 have hv:=kf.nv;have hc:=kf.nc;have hsm:=kf.small hb;have htree:=Zas (Zh k b);have hl1:(Zs k b).fr.length=(Zd (Zh k b)).par.length:=ZfQ;have hvl:(Zs k b).vin.length=k.vars.length:=Zfl (Zh k b) k.vars.length;have hcl:(Zs k b).cin.length=k.chans.length:=ZfW (Zh k b) (ZbB k b) k.chans.length
 have hwl:∀ (st:Int→Nat) (ins:List Int) (sz:List Nat),(Zbq st ins sz).length=ins.length:=fun st ins sz=>by simp [Zbq]
 have hal:(Zs k b).vat.length=k.vars.length:=by show (Za2 (ZbA k (Zd (Zh k b))) k.vars).length=_; unfold Za2; rw [hwl]; exact hvl
 have hdl:(Zs k b).cat.length=k.chans.length:=by show (Zaq (ZbA k (Zd (Zh k b))) (Zdh k b (Zd (Zh k b))) k.vars k.chans.length).length=_; unfold Zaq; rw [hwl]; exact hcl
 have hvat:∀ v∈(Zs k b).vat,Zy v:=ZbO (start:=fun _=>2) (ins:=ZbA k (Zd (Zh k b))) (sz:=Zz k.vars) (Zb3 kf.dims) (fun _=>by show 2≤1000000; omega) (by rw [show (ZbA k (Zd (Zh k b))).length=k.vars.length from hvl]; omega)
 have hcat:∀ v∈(Zs k b).cat,Zy v:=ZbO (M:=1) (start:=fun f=>2+ZaN (ZbA k (Zd (Zh k b))) (Zz k.vars) f k.vars.length) (ins:=Zdh k b (Zd (Zh k b))) (sz:=List.replicate k.chans.length 1) (ZdV _) (fun f=>by
  have:=ZcC kf.dims (ZbA k (Zd (Zh k b))) f k.vars.length hv
  show 2+ZaN (ZbA k (Zd (Zh k b))) (Zz k.vars) f k.vars.length≤1000000
  omega) (by rw [show (Zdh k b (Zd (Zh k b))).length=k.chans.length from hcl]; omega)
 refine ⟨⟨some ⟨gf,0,none⟩,cf,(Zs k b).fr,some ⟨g1,0,none⟩,k.vars.length,(Zs k b).vat,some ⟨g2,0,none⟩,k.vars.length,(Zs k b).vin,some ⟨g3,0,none⟩,k.chans.length,(Zs k b).cat,some ⟨g4,0,none⟩,k.chans.length,(Zs k b).cin⟩,?_,⟨rfl,rfl,rfl,rfl,rfl⟩,?_,hbel⟩
 ·simp only [SpL.cells,hl1,hvl,hcl,hal,hdl]
 ·refine ⟨⟨by unfold ZB; rw [hl1]; omega,ZhP hf,?_⟩,Zg6 h1 (by show (Zs k b).vat.length≤1000000; omega) ?_,Zg6 h2 (by show (Zs k b).vin.length≤1000000; omega) ?_,Zg6 h3 (by show (Zs k b).cat.length≤1000000; omega) ?_,Zg6 h4 (by show (Zs k b).cin.length≤1000000; omega) ?_⟩
  ·refine ZfS _ (ZnY htree (by omega) (fun f=>?_) (fun f=>?_) _)
   ·have a:=ZcC kf.dims (ZbA k (Zd (Zh k b))) (f:Int) k.vars.length hv;have c:=ZbF (Zdh k b (Zd (Zh k b))) (List.replicate k.chans.length 1) 1 (ZdV _) (f:Int) k.chans.length;unfold ZaA Zbo
    omega
   ·have:=Zfa (Zd (Zh k b)).uses (fun u hu=>ZaS (kf.all hb) u hu) f
    omega
  ·exact hvat
  ·exact (ZcB (Zh k b) k.vars.length).i64 (by omega)
  ·exact hcat
  ·exact (ZcJ (Zh k b) (ZbB k b) k.chans.length).i64 (by omega)
theorem MkE.some {k:KK} {b bs gf g1 g2 g3 g4 cf Dn:Nat} {w W:World} (h:MkE k b bs gf g1 g2 g3 g4 cf Dn w W) (kf:Za9 k) (hb:Zh k b=k.root∨Zh k b∈k.root.l) {v0 v1 v2 v3 v4:Value} (hv:#[.slice (some ⟨gf,0,Option.none⟩) (Zd (Zh k b)).par.length cf,.slice (some ⟨g1,0,Option.none⟩) k.vars.length k.vars.length,.slice (some ⟨g2,0,Option.none⟩) k.vars.length k.vars.length,.slice (some ⟨g3,0,Option.none⟩) k.chans.length k.chans.length,.slice (some ⟨g4,0,Option.none⟩) k.chans.length k.chans.length]=#[v0,v1,v2,v3,v4]) :
  (((((W.setCell ⟨w.heap.size+1,0,Option.none⟩ v0).setCell ⟨w.heap.size+1,1,Option.none⟩ v1).setCell ⟨w.heap.size+1,2,Option.none⟩ v2).setCell ⟨w.heap.size+1,3,Option.none⟩ v3).setCell ⟨w.heap.size+1,4,Option.none⟩ v4).heap[Dn]? = Option.some (.deferred (Option.some [])) ∧
  ∀ o,Blk ((((((W.setCell ⟨w.heap.size+1,0,Option.none⟩ v0).setCell ⟨w.heap.size+1,1,Option.none⟩ v1).setCell ⟨w.heap.size+1,2,Option.none⟩ v2).setCell ⟨w.heap.size+1,3,Option.none⟩ v3).setCell ⟨w.heap.size+1,4,Option.none⟩ v4).putObj Dn o) (w.heap.size+1) 38 #[v0,v1,v2,v3,v4] ∧
   ZeQ (Zs k b,0) w (.returned (.tuple #[.agg #[v0,v1,v2,v3,v4],.int .i64 0])) ((((((W.setCell ⟨w.heap.size+1,0,Option.none⟩ v0).setCell ⟨w.heap.size+1,1,Option.none⟩ v1).setCell ⟨w.heap.size+1,2,Option.none⟩ v2).setCell ⟨w.heap.size+1,3,Option.none⟩ v3).setCell ⟨w.heap.size+1,4,Option.none⟩ v4).putObj Dn o):=by
 have hs:=Zdu h.bel h.res (Nat.le_succ _) v0 v1 v2 v3 v4;have hn:=Zg9 h.dn h.res;generalize (((((W.setCell ⟨w.heap.size+1,0,Option.none⟩ v0).setCell ⟨w.heap.size+1,1,Option.none⟩ v1).setCell ⟨w.heap.size+1,2,Option.none⟩ v2).setCell ⟨w.heap.size+1,3,Option.none⟩ v3).setCell ⟨w.heap.size+1,4,Option.none⟩ v4)=W2 at *;have far:∀ {g:Nat} {t:TypeId} {cs:Array Value},Blk W g t cs→t≠38→∀ o,Blk (W2.putObj Dn o) g t cs:=fun hg ht o=>(World.putObj_heap_other (Zg9 h.dn hg)).trans ((hs.2.2 _ (hg.ne_ h.res ht)).trans hg)
 have hfr:∀ o,Zfg (W2.putObj Dn o) gf (Zs k b).fr:=fun o=>by
  obtain ⟨cur,hc,hcc⟩:=h.fr;exact ⟨cur,far hc (by decide) o,hcc⟩
 refine ⟨(hs.2.2 Dn (Ne.symm hn)).trans h.dn,fun o=>⟨(World.putObj_heap_other hn).trans hs.2.1,?_⟩⟩;rw [← hv];exact Zkz kf hb (hs.1.putObj h.dl o) (hfr o) (far h.h1 (by decide) o) (far h.h2 (by decide) o) (far h.h3 (by decide) o) (far h.h4 (by decide) o)
theorem MkK.last {k:KK} {p:KP} {B S0 bw bo go bs g1 g2 g3 g4 nv nc q0 q1 b gf gt cf ct Dn n:Nat} {outs:List Bool} {w w7 W w9:World} {s:PlS} (h:MkK k p B S0 bw bo go bs g1 g2 g3 g4 nv nc q0 q1 outs w7)
  (hj:MkJ S0 bw g2 g4 nv nc (Zd p).par outs w7 (Zd p).uses W) (hla:Zpf k B S0 bw bs gf gt g1 g2 g3 g4 (Zd p).par.length nv nc cf ct nv nv nc nc (ZJ Zf) s (Zd5 p nv) (Ze8 p outs nc) (.slice none 0 0) W) (hs:s.pl=Zd p) (hb:Zh k b=p) (ho:ZbB k b=outs) (hn:(Zd p).par.length=n)
  (hbel:Below w.heap.size w w7) (hres:Blk w7 (w.heap.size+1) 38 Zdb) (hlo:w.heap.size+1 < bs∧w.heap.size≤bw∧w.heap.size≤g1∧w.heap.size≤g2∧w.heap.size≤g3∧w.heap.size≤g4) (hgf:S0≤gf)
  (hbl:Zl W.heap.size (fun k=>k=gf∨k=g1∨k=g3) W w9) (hfr:Zfg w9 gf (Zdf (ZJ Zf s.pl.uses) (Zd5 p nv) (Ze8 p outs nc) k.vars nc s.pl)) (hb1:Blk w9 g1 3 (ZV (Za2 (Zd5 p nv) k.vars))) (hb3:Blk w9 g3 3 (ZV (Zaq (Zd5 p nv) (Ze8 p outs nc) k.vars nc)))
  (hK:W.heap[Dn]? = some (.deferred (some []))) (hDn:S0≤Dn) :
  MkE k b bs gf g1 g2 g3 g4 cf Dn w ((w9.setCell ⟨bs,0,none⟩ (.slice (some ⟨gf,0,none⟩) n cf)).drew)∧∃ x0,(Zs k b).fr[0]? = some x0∧Zgf (Zs k b)=decide (16384 < wrap64 (x0.above+x0.below)):=by
 have hk:=h.kv
 have hc:k.chans.length=nc:=by rw [← Zhw k b,ho]; exact h.ol
 subst hb ho hn;have hWs:=hla.hpl.hi;have hS0:=h.hS0;have hsz:=hbel.size
 have hws:w.heap.size≤S0:=by omega
 have f1:gf≠bs:=by
  obtain ⟨cur,hcur,-⟩:=hfr;obtain ⟨cc,hcc⟩:=ZN hla.hpl.fr (k:=gf) (by rw [hla.hvf]; rfl);exact fun e=>hla.xbs.ne_ hcc (by decide) e.symm
 obtain ⟨cc,hcc⟩:=ZN hla.hpl.fr (k:=gf) (by rw [hla.hvf]; rfl)
 have far:∀ {g:Nat} {t:TypeId} {cs:Array Value},Blk W g t cs→t≠3→t≠74→Blk w9 g t cs:=fun hg n1 n2=>hbl.blk hg hg.lt fun hX=>by
  rcases hX with e | e | e
  ·exact hg.ne_ hcc n2 e
  ·exact hg.ne_ hla.x1 n1 e
  ·exact hg.ne_ hla.x3 n1 e
 have z4:=far (h.stay hj hres (by decide) (by decide)) (by decide) (by decide);have z5:=far (h.stay hj h.xbs (by decide) (by decide)) (by decide) (by decide);have hne:=hla.ne
 have hgl:gf < W.heap.size∧g1 < W.heap.size∧g3 < W.heap.size:=⟨hcc.lt,hla.x1.lt,hla.x3.lt⟩
 have i2:Blk w9 g2 3 (ZV (Zd5 (Zh k b) nv)):=hbl.blk hla.x2 hla.x2.lt fun hX=>by
  rcases hX with e | e | e
  ·exact hla.x2.ne_ hcc (by decide) e
  ·omega
  ·omega
 have i4:Blk w9 g4 3 (ZV (Ze8 (Zh k b) (ZbB k b) nc)):=hbl.blk hla.x4 hla.x4.lt fun hX=>by
  rcases hX with e | e | e
  ·exact hla.x4.ne_ hcc (by decide) e
  ·omega
  ·omega
 have b9:Below w.heap.size w w9:=(hbel.trans (hj.bel.below hws fun k hk=>by rcases hk with e | e | e <;> omega)).trans (hbl.below (by omega) fun k hk=>by rcases hk with e | e | e <;> omega);have hint:∀ {g:Nat} {cs:Array Value},Blk w9 g 3 cs→Blk ((w9.setCell ⟨bs,0,none⟩ (.slice (some ⟨gf,0,none⟩) (Zd (Zh k b)).par.length cf)).drew) g 3 cs:=fun hg=>Zk hg (hg.ne_ z5 (by decide))
 have hd9:w9.heap[Dn]? = some (.deferred (some [])):=(hbl.block Dn (Array.getElem?_eq_some_iff.1 hK).1 fun hX=>by
  rcases hX with e | e | e
  ·subst e; unfold Blk at hcc; rw [hK] at hcc; cases hcc
  ·subst e; have:=hla.x1; unfold Blk at this; rw [hK] at this; cases this
  ·subst e; have:=hla.x3; unfold Blk at this; rw [hK] at this; cases this).trans hK
 rw [hs] at hfr
 have hfeq:(Zs k b).fr=Zdf (ZJ Zf (Zd (Zh k b)).uses) (Zd5 (Zh k b) nv) (Ze8 (Zh k b) (ZbB k b) nc) k.vars nc (Zd (Zh k b)):=by rw [← hk,← hc]; rfl
 refine ⟨⟨(b9.setCell (by show w.heap.size≤bs; omega) _).drew,Zk z4 (by show w.heap.size+1≠bs; omega),?_,?_,?_,?_,?_,?_,?_,by omega⟩,?_⟩
 ·have:=z5.set_ 0 (.slice (some ⟨gf,0,none⟩) (Zd (Zh k b)).par.length cf);rw [hk,hc];refine Blk.drew ?_
  simpa using this
 ·rw [hfeq]; exact hfr.same (Below.heap_setCell _ _ _ _ f1)
 ·have:(Zs k b).vat=Za2 (Zd5 (Zh k b) nv) k.vars:=by rw [← hk]; rfl
  rw [this]; exact hint hb1
 ·have:(Zs k b).vin=Zd5 (Zh k b) nv:=by rw [← hk]; rfl
  rw [this]; exact hint i2
 ·have:(Zs k b).cat=Zaq (Zd5 (Zh k b) nv) (Ze8 (Zh k b) (ZbB k b) nc) k.vars nc:=by rw [← hk,← hc]; rfl
  rw [this]; exact hint hb3
 ·have:(Zs k b).cin=Ze8 (Zh k b) (ZbB k b) nc:=by rw [← hc]; rfl
  rw [this]; exact hint i4
 ·exact (Below.heap_setCell _ _ _ Dn (Ne.symm (Zg9 hd9 z5))).trans hd9
 ·have hl:0 < (Zs k b).fr.length:=by rw [hfeq,ZfQ]; exact (Zas _).pos
  refine ⟨_,List.getElem?_eq_getElem hl,?_⟩;unfold Zgf;rw [List.getD_eq_getElem?_getD,List.getElem?_eq_getElem hl]
  rfl
end
section
theorem ZcX {P:Program} {id:Nat} {Q:Exit→Act→World→Prop} {a:Act} {w:World} {l:List Oper} (F:Unit→World) (hF:∀ i,F i=w.drew) (n:Nat) (hm:P.follows .mixedOrders=true) (hB:Region.lexTailB .any l.toArray n=true)
  (h:wpQuiet P l.toArray (fun w'=>∃ i,w'=F i) (fun a'=>wpList P l.toArray Q (l.drop n) a' w.drew) (l.take n) a):(Code.region id l.toArray true).wp P Q a w:=by
 have e:(fun w'=>∃ i,w'=F i)=(fun w'=>w'=w.drew):=by
  funext w'
  exact propext ⟨fun ⟨i,hi⟩=>hi.trans (hF i),fun h=>⟨(),h.trans (hF ()).symm⟩⟩
 rw [e] at h;exact ZG n hm hB h
structure MbA (rb:Nat) (w:World) (kc:Array Value) (p:KP) (wr:World):Prop where
 bel:Below w.heap.size w wr
 kb:Blk wr w.heap.size 34 kc
 res:Blk wr (w.heap.size+1) 38 Zdb
 root:Blk wr rb 31 p.cells
theorem MbA.call {rb:Nat} {w wr w':World} {kc:Array Value} {p:KP} (h:MbA rb w kc p wr) (hb:Below wr.heap.size wr w'):MbA rb w kc p w' :=
 ⟨h.bel.trans (hb.mono h.bel.size),h.kb.call hb,h.res.call hb,h.root.call hb⟩
theorem MbA.store {rb:Nat} {w wr:World} {kc:Array Value} {p x:KP} (h:MbA rb w kc p wr) (hr:w.heap.size≤rb) {v0 v1 v2 v3 v4 v5 v6 v7:Value} (hx:x.cells=#[v0,v1,v2,v3,v4,v5,v6,v7]) :
  MbA rb w kc x ((((((((wr.setCell ⟨rb,0,none⟩ v0).setCell ⟨rb,1,none⟩ v1).setCell ⟨rb,2,none⟩ v2).setCell ⟨rb,3,none⟩ v3).setCell ⟨rb,4,none⟩ v4).setCell ⟨rb,5,none⟩ v5).setCell ⟨rb,6,none⟩ v6).setCell ⟨rb,7,none⟩ v7):=by
 have far:∀ {g:Nat} {t:TypeId} {cs:Array Value},Blk wr g t cs→t≠31→Blk ((((((((wr.setCell ⟨rb,0,none⟩ v0).setCell ⟨rb,1,none⟩ v1).setCell ⟨rb,2,none⟩ v2).setCell ⟨rb,3,none⟩ v3).setCell ⟨rb,4,none⟩ v4).setCell ⟨rb,5,none⟩ v5).setCell ⟨rb,6,none⟩ v6).setCell ⟨rb,7,none⟩ v7) g t cs:=fun {g t cs} hb ht=>by
  have hn:g≠rb:=hb.ne_ h.root ht;exact Zk (Zk (Zk (Zk (Zk (Zk (Zk (Zk hb hn) hn) hn) hn) hn) hn) hn) hn
 refine ⟨(((((((h.bel.setCell hr _).setCell hr _).setCell hr _).setCell hr _).setCell hr _).setCell hr _).setCell hr _).setCell hr _,far h.kb (by decide),far h.res (by decide),?_⟩;rw [hx];have:=(((((((h.root.set_ 0 v0).set_ 1 v1).set_ 2 v2).set_ 3 v3).set_ 4 v4).set_ 5 v5).set_ 6 v6).set_ 7 v7
 simpa [KP.cells] using this
structure NoR (w0:World) (gs:List (Value×Nat)) (ob:Option Nat) (W:World):Prop where
 bel:Below w0.heap.size w0 W
 rows:∀ x∈gs,W.ownsRow w0.heap.size 3 1 x.1 x.2 (ZO (List.replicate x.2 (-1)))
 nd:gs.Pairwise fun a b=>∀ k,a.1.ownBlock=some k→b.1.ownBlock≠some k
 box:∀ b,ob=some b→w0.heap.size≤b∧Blk W b 38 Zh0
theorem ZmZ {w:World} {b b':Nat} {e:TypeId} {size n:Nat} {v:Value} {xs:List Value} (h:w.ownsRow b e size v n xs) (hb:b'≤b):w.ownsRow b' e size v n xs:=by
 refine ⟨h.1,?_⟩
 rcases h.2 with q | ⟨g,cap,cur,e,q1,q2⟩
 ·exact .inl q
 ·exact .inr ⟨g,cap,cur,e,Nat.le_trans hb q1,q2⟩
theorem NoR.start (w0:World):NoR w0 [] none w0.drew:=⟨(Below.refl _ _).drew,fun x h=>(by cases h),List.Pairwise.nil,fun b h=>(by cases h)⟩
theorem NoR.step {w0 W W':World} {gs:List (Value×Nat)} {ob:Option Nat} {e:Ending} {n:Nat} (h:NoR w0 gs ob W) (hr:ZqD n W e W'):∃ A c,e = .returned (.slice A n c)∧Hid (NoR w0 (gs++[(.slice A n c,n)]) ob W'):=by
 obtain ⟨v,rfl,O,K⟩:=hr;obtain ⟨A,c,rfl⟩:=Zv O.out;have hs:=h.bel.size;refine ⟨A,c,rfl,Lh ⟨h.bel.trans (K.out.mono hs),fun x hx=>?_,?_,fun b hb=>⟨(h.box b hb).1,(h.box b hb).2.call K.out⟩⟩⟩
 ·rcases List.mem_append.1 hx with hx | hx
  ·exact (h.rows x hx).below K.out
  ·simp at hx; subst hx; exact ZmZ O.out hs
 ·rw [List.pairwise_append];refine ⟨h.nd,by simp,fun x hx y hy k hk=>?_⟩;simp at hy; subst hy;intro hk2;have h1:=((h.rows x hx).lt k hk).2;have h2:=(O.out.lt k hk2).1
  omega
theorem NoR.made {w0 W:World} {gs:List (Value×Nat)} (h:Hid (NoR w0 gs none W)):Hid (NoR w0 gs (some W.heap.size) (W.alloc (.cells #[.slice none 0 0,.slice none 0 0,.slice none 0 0,.slice none 0 0,.slice none 0 0] 38))) :=
 have h:=h.out
 Lh ⟨h.bel.alloc h.bel.size _,fun x hx=>(h.rows x hx).alloc _,h.nd,fun b hb=>by
  injection hb with hb
  subst hb
  exact ⟨h.bel.size,Blk.new _ _ _⟩⟩
theorem NoR.sb {w0 W:World} {gs:List (Value×Nat)} {ob:Option Nat} (h:Hid (NoR w0 gs ob W)):Zi w0 W:=(Zi.refl w0).below h.out.bel
theorem NoR.sb5 {w0 W:World} {gs:List (Value×Nat)} {b:Nat} (h:Hid (NoR w0 gs (some b) W)) {v0 v1 v2 v3 v4:Value}:Zi w0 (((((W.setCell ⟨b,0,none⟩ v0).setCell ⟨b,1,none⟩ v1).setCell ⟨b,2,none⟩ v2).setCell ⟨b,3,none⟩ v3).setCell ⟨b,4,none⟩ v4) :=
 have hb:=(h.out.box b rfl).1
 ((((NoR.sb h).set hb _).set hb _).set hb _).set hb _ |>.set hb _
structure SpR (w0:World) (bs:Nat) (v1 v2 v3 v4:Value) (nv nc:Nat) (W:World):Prop where
 bel:Below w0.heap.size w0 W
 lo:w0.heap.size≤bs
 xbs:Blk W bs 38 #[.slice none 0 0,v1,v2,v3,v4]
 x1:W.ownsRow w0.heap.size 3 1 v1 nv (ZO (List.replicate nv (-1)))
 x2:W.ownsRow w0.heap.size 3 1 v2 nv (ZO (List.replicate nv (-1)))
 x3:W.ownsRow w0.heap.size 3 1 v3 nc (ZO (List.replicate nc (-1)))
 x4:W.ownsRow w0.heap.size 3 1 v4 nc (ZO (List.replicate nc (-1)))
 ne:∀ k,(v1.ownBlock=some k→v2.ownBlock≠some k∧v3.ownBlock≠some k∧v4.ownBlock≠some k)∧(v2.ownBlock=some k→v3.ownBlock≠some k∧v4.ownBlock≠some k)∧(v3.ownBlock=some k→v4.ownBlock≠some k)
theorem NoR.ne4 {w0 W:World} {v1 v2 v3 v4:Value} {n1 n2 n3 n4:Nat} {ob:Option Nat} (h:NoR w0 [(v1,n1),(v2,n2),(v3,n3),(v4,n4)] ob W):∀ k,(v1.ownBlock=some k→v2.ownBlock≠some k∧v3.ownBlock≠some k∧v4.ownBlock≠some k)∧(v2.ownBlock=some k→v3.ownBlock≠some k∧v4.ownBlock≠some k)∧(v3.ownBlock=some k→v4.ownBlock≠some k):=by
 have hnd:=h.nd;simp only [List.pairwise_cons,List.mem_cons,List.not_mem_nil,or_false,forall_eq_or_imp,forall_eq] at hnd
 exact fun k=>⟨fun hk=>⟨hnd.1.1 k hk,hnd.1.2.1 k hk,hnd.1.2.2 k hk⟩,fun hk=>⟨hnd.2.1.1 k hk,hnd.2.1.2 k hk⟩,fun hk=>hnd.2.2.1 k hk⟩
theorem NoR.fin {w0 W:World} {v1 v2 v3 v4:Value} {nv nc b:Nat} (h:Hid (NoR w0 [(v1,nv),(v2,nv),(v3,nc),(v4,nc)] (some b) W)) :
  SpR w0 b v1 v2 v3 v4 nv nc (((((W.setCell ⟨b,0,none⟩ (.slice none 0 0)).setCell ⟨b,1,none⟩ v1).setCell ⟨b,2,none⟩ v2).setCell ⟨b,3,none⟩ v3).setCell ⟨b,4,none⟩ v4):=by
 have h:=h.out;have hb:=h.box b rfl;have r1:=h.rows (v1,nv) (by simp);have r2:=h.rows (v2,nv) (by simp);have r3:=h.rows (v3,nc) (by simp);have r4:=h.rows (v4,nc) (by simp)
 have far:∀ {v:Value} {n:Nat} {xs:List Value},W.ownsRow w0.heap.size 3 1 v n xs→(((((W.setCell ⟨b,0,none⟩ (.slice none 0 0)).setCell ⟨b,1,none⟩ v1).setCell ⟨b,2,none⟩ v2).setCell ⟨b,3,none⟩ v3).setCell ⟨b,4,none⟩ v4).ownsRow w0.heap.size 3 1 v n xs:=fun {v n xs} ho=>Zp ho fun k hk=>by
  have hn:k≠b:=fun e=>Zg ho hb.2 (by decide) (e ▸ hk);rw [Below.heap_setCell _ _ _ k hn,Below.heap_setCell _ _ _ k hn,Below.heap_setCell _ _ _ k hn,Below.heap_setCell _ _ _ k hn,Below.heap_setCell _ _ _ k hn]
 refine ⟨((((h.bel.setCell hb.1 _).setCell hb.1 _).setCell hb.1 _).setCell hb.1 _).setCell hb.1 _,hb.1,?_,far r1,far r2,far r3,far r4,h.ne4⟩;have:=((((hb.2.set_ 0 (.slice none 0 0)).set_ 1 v1).set_ 2 v2).set_ 3 v3).set_ 4 v4
 simpa [Zh0] using this
theorem NoR.finA {w0 W:World} {v1 v2 v3 v4:Value} {nv nc:Nat} (h:Hid (NoR w0 [(v1,nv),(v2,nv),(v3,nc),(v4,nc)] none W)) :
  SpR w0 W.heap.size v1 v2 v3 v4 nv nc (W.alloc (.cells #[.slice none 0 0,v1,v2,v3,v4] 38)):=by
 have h:=h.out;exact ⟨h.bel.alloc h.bel.size _,h.bel.size,Blk.new _ _ _,(h.rows (v1,nv) (by simp)).alloc _,(h.rows (v2,nv) (by simp)).alloc _,(h.rows (v3,nc) (by simp)).alloc _,(h.rows (v4,nc) (by simp)).alloc _,h.ne4⟩
structure MkR (k:KK) (base S0 bw bs nv nc:Nat) (s:PlR) (w:World) (vF v1 v2 v3 v4:Value) (a1 a2 a3 a4:List Int) (wr:World):Prop where
 bel:Below w.heap.size w wr
 kb:Blk wr w.heap.size 34 k.flat
 rb:Blk wr (w.heap.size+1) 38 Zdb
 pa:Za8 S0 bw s wr
 sb:Blk wr bs 38 #[vF,v1,v2,v3,v4]
 r1:wr.ownsRow base 3 1 v1 nv (ZO a1)
 r2:wr.ownsRow base 3 1 v2 nv (ZO a2)
 r3:wr.ownsRow base 3 1 v3 nc (ZO a3)
 r4:wr.ownsRow base 3 1 v4 nc (ZO a4)
structure MkD (base S0 bw bs:Nat) (s:PlR) (w:World) (v1 v2 v3 v4:Value):Prop where
 hbs:w.heap.size+1 < bs
 hbase:w.heap.size+1 < base
 hS:w.heap.size≤S0
 ne:∀ k,(v1.ownBlock=some k→v2.ownBlock≠some k∧v3.ownBlock≠some k∧v4.ownBlock≠some k)∧(v2.ownBlock=some k→v3.ownBlock≠some k∧v4.ownBlock≠some k)∧(v3.ownBlock=some k→v4.ownBlock≠some k)
 nr:∀ k,(v1.ownBlock=some k∨v2.ownBlock=some k∨v3.ownBlock=some k∨v4.ownBlock=some k)→¬ ZcE s k
section
variable {k:KK} {base S0 bw bs nv nc:Nat} {s:PlR} {w wr w':World} {vF vF' v1 v2 v3 v4:Value} {a1 a2 a3 a4 a1' a2' a3' a4':List Int} {X:Nat→Prop}
theorem MkR.next (h:MkR k base S0 bw bs nv nc s w vF v1 v2 v3 v4 a1 a2 a3 a4 wr) (hb:Zl wr.heap.size X wr w') (hX:∀ k,X k→w.heap.size+1 < k∧k≠bw∧¬ ZcE s k)
  (qs:Blk w' bs 38 #[vF',v1,v2,v3,v4]) (q1:w'.ownsRow base 3 1 v1 nv (ZO a1')) (q2:w'.ownsRow base 3 1 v2 nv (ZO a2')) (q3:w'.ownsRow base 3 1 v3 nc (ZO a3')) (q4:w'.ownsRow base 3 1 v4 nc (ZO a4')) :
  MkR k base S0 bw bs nv nc s w vF' v1 v2 v3 v4 a1' a2' a3' a4' w':=by
 have hs:=h.bel.size;have hr:=h.rb.lt
 exact ⟨⟨hb.os.trans h.bel.os,hb.tape.trans h.bel.tape,hb.output.trans h.bel.output,Nat.le_trans hs hb.size,fun i hi=>(hb.block i (by omega) fun hx=>by have:=(hX i hx).1; omega).trans (h.bel.block i hi)⟩,
  (hb.block _ h.kb.lt fun hx=>by have:=(hX _ hx).1; omega).trans h.kb,(hb.block _ h.rb.lt fun hx=>by have:=(hX _ hx).1; omega).trans h.rb,h.pa.belowE hb fun i hi=>(hX i hi).2,qs,q1,q2,q3,q4⟩
theorem MkR.call (h:MkR k base S0 bw bs nv nc s w vF v1 v2 v3 v4 a1 a2 a3 a4 wr) (hb:Below wr.heap.size wr w'):MkR k base S0 bw bs nv nc s w vF v1 v2 v3 v4 a1 a2 a3 a4 w' :=
 h.next (X:=fun _=>False) (Zl.of hb) (fun _ hx=>hx.elim) (h.sb.call hb) (h.r1.below hb) (h.r2.below hb) (h.r3.below hb) (h.r4.below hb)
theorem ZbX (hp:Za8 S0 bw s wr) {b n:Nat} {v:Value} {xs:List Value} (h:wr.ownsRow b 3 1 v n xs) {g:Nat} (hg:v.ownBlock=some g):g≠bw:=fun e=>Zg h hp.blk (by decide) (e ▸ hg)
theorem MkR.set2 (h:MkR k base S0 bw bs nv nc s w vF v1 v2 v3 v4 a1 a2 a3 a4 wr) (d:MkD base S0 bw bs s w v1 v2 v3 v4) {g:Nat} (hg:v2.ownBlock=some g) (j:Nat) (u:Int) :
  MkR k base S0 bw bs nv nc s w vF v1 v2 v3 v4 a1 (a2.set j u) a3 a4 (wr.setCell ⟨g,j,none⟩ (.int .i64 u)):=by
 have hlo:=(h.r2.lt g hg).1;have hbase:=d.hbase;have far:∀ {n:Nat} {v:Value} {xs:List Value},wr.ownsRow base 3 1 v n xs→v.ownBlock≠some g→(wr.setCell ⟨g,j,none⟩ (.int .i64 u)).ownsRow base 3 1 v n xs:=fun ho hn=>Zp ho fun i hi=>Below.heap_setCell wr _ _ i fun e=>hn (by rw [hi,e]);refine h.next (X:=fun i=>i=g) (Zl.set (own:=fun i=>i=g) wr (p:=⟨g,j,none⟩) rfl _) (fun i hi=>?_) (Zk h.sb fun e=>Zg h.r2 h.sb (by decide) (e ▸ hg)) (far h.r1 fun e=>((d.ne g).1 e).1 hg) ?_ (far h.r3 ((d.ne g).2.1 hg).1) (far h.r4 ((d.ne g).2.1 hg).2)
 ·subst hi; exact ⟨by omega,ZbX h.pa h.r2 hg,d.nr i (.inr (.inl hg))⟩
 ·rw [← Zek]; exact Zc7 h.r2 hg j _
theorem MkR.set4 (h:MkR k base S0 bw bs nv nc s w vF v1 v2 v3 v4 a1 a2 a3 a4 wr) (d:MkD base S0 bw bs s w v1 v2 v3 v4) {g:Nat} (hg:v4.ownBlock=some g) (j:Nat) (u:Int) :
  MkR k base S0 bw bs nv nc s w vF v1 v2 v3 v4 a1 a2 a3 (a4.set j u) (wr.setCell ⟨g,j,none⟩ (.int .i64 u)):=by
 have hlo:=(h.r4.lt g hg).1;have hbase:=d.hbase;have far:∀ {n:Nat} {v:Value} {xs:List Value},wr.ownsRow base 3 1 v n xs→v.ownBlock≠some g→(wr.setCell ⟨g,j,none⟩ (.int .i64 u)).ownsRow base 3 1 v n xs:=fun ho hn=>Zp ho fun i hi=>Below.heap_setCell wr _ _ i fun e=>hn (by rw [hi,e]);refine h.next (X:=fun i=>i=g) (Zl.set (own:=fun i=>i=g) wr (p:=⟨g,j,none⟩) rfl _) (fun i hi=>?_) (Zk h.sb fun e=>Zg h.r4 h.sb (by decide) (e ▸ hg)) (far h.r1 fun e=>((d.ne g).1 e).2.2 hg) (far h.r2 fun e=>((d.ne g).2.1 e).2 hg) (far h.r3 fun e=>(d.ne g).2.2 e hg) ?_
 ·subst hi; exact ⟨by omega,ZbX h.pa h.r4 hg,d.nr i (.inr (.inr (.inr hg)))⟩
 ·rw [← Zek]; exact Zc7 h.r4 hg j _
theorem MkR.lay (h:MkR k base S0 bw bs nv nc s w vF v1 v2 v3 v4 a1 a2 a3 a4 wr) (d:MkD base S0 bw bs s w v1 v2 v3 v4) (hb:Zl wr.heap.size (Zoy v1 v3) wr w') (q1:w'.ownsRow base 3 1 v1 nv (ZO a1')) (q3:w'.ownsRow base 3 1 v3 nc (ZO a3')) {n:Nat} {xs:List Value} (hF:wr.ownsRow base 74 5 vF n xs) :
  MkR k base S0 bw bs nv nc s w vF v1 v2 v3 v4 a1' a2 a3' a4 w'∧w'.ownsRow base 74 5 vF n xs:=by
 have hbase:=d.hbase
 have hbsx:¬ Zoy v1 v3 bs:=by
  rintro (e | e)
  ·exact Zg h.r1 h.sb (by decide) e
  ·exact Zg h.r3 h.sb (by decide) e
 refine ⟨h.next hb (fun i hi=>?_) ((hb.block bs h.sb.lt hbsx).trans h.sb) q1 (Zp h.r2 fun i hi=>hb.block i (h.r2.lt i hi).2 ?_) q3 (Zp h.r4 fun i hi=>hb.block i (h.r4.lt i hi).2 ?_),Zp hF fun i hi=>hb.block i (hF.lt i hi).2 ?_⟩
 ·rcases hi with e | e
  ·have:=(h.r1.lt i e).1; exact ⟨by omega,ZbX h.pa h.r1 e,d.nr i (.inl e)⟩
  ·have:=(h.r3.lt i e).1; exact ⟨by omega,ZbX h.pa h.r3 e,d.nr i (.inr (.inr (.inl e)))⟩
 ·rintro (e | e)
  ·exact ((d.ne i).1 e).1 hi
  ·exact ((d.ne i).2.1 hi).1 e
 ·rintro (e | e)
  ·exact ((d.ne i).1 e).2.2 hi
  ·exact (d.ne i).2.2 e hi
 ·rintro (e | e)
  ·exact Zc8 h.r1 hF (by decide) e hi
  ·exact Zc8 h.r3 hF (by decide) e hi
theorem MkR.frm (h:MkR k base S0 bw bs nv nc s w vF v1 v2 v3 v4 a1 a2 a3 a4 wr) (d:MkD base S0 bw bs s w v1 v2 v3 v4) {n:Nat} {xs ys:List Value} (hF:wr.ownsRow base 74 5 vF n xs) {n':Nat} (ho:w'.ownsRow base 74 5 vF' n' ys) (hg:wr.grownBy w' vF.ownBlock) :
  MkR k base S0 bw bs nv nc s w vF' v1 v2 v3 v4 a1 a2 a3 a4 (w'.setCell ⟨bs,0,none⟩ vF')∧(w'.setCell ⟨bs,0,none⟩ vF').ownsRow base 74 5 vF' n' ys:=by
 have hbase:=d.hbase;have hbs:=d.hbs;have hne:some bs≠vF.ownBlock:=fun e=>Zg hF h.sb (by decide) e.symm;have hb':=h.sb.grown hg hne;have hbk:∀ i,i < wr.heap.size→i≠bs→vF.ownBlock≠some i→(w'.setCell ⟨bs,0,none⟩ vF').heap[i]? = wr.heap[i]?:=fun i hi h1 h2=>(Below.heap_setCell w' _ vF' i h1).trans (hg.block i hi (fun e=>h2 e.symm));have far:∀ {n:Nat} {v:Value} {xs:List Value},wr.ownsRow base 3 1 v n xs→(w'.setCell ⟨bs,0,none⟩ vF').ownsRow base 3 1 v n xs:=fun hv=>Zp hv fun i hi=>hbk i (hv.lt i hi).2 (fun e=>Zg hv h.sb (by decide) (e ▸ hi)) (fun e=>Zc8 hv hF (by decide) hi e);refine ⟨h.next (X:=fun i=>i=bs∨vF.ownBlock=some i) ⟨hg.os,hg.tape,hg.output,by simpa using hg.size,fun i hi hn=>hbk i hi (fun e=>hn (.inl e)) (fun e=>hn (.inr e))⟩ (fun i hi=>?_) (by simpa using hb'.set_ 0 vF') (far h.r1) (far h.r2) (far h.r3) (far h.r4),Zp ho fun i hi=>Below.heap_setCell w' _ vF' i fun e=>Zg ho hb' (by decide) (show vF'.ownBlock=some bs by rw [hi,e])⟩
 rcases hi with e | e
 ·subst e;exact ⟨hbs,h.sb.ne_ h.pa.blk (by decide),h.pa.no_row h.sb (by decide) (by decide) (by decide)⟩
 ·obtain ⟨cur,hc⟩:=ZN hF e;have:=(hF.lt i e).1;exact ⟨by omega,hc.ne_ h.pa.blk (by decide),h.pa.no_row hc (by decide) (by decide) (by decide)⟩
theorem MkR.setF (h:MkR k base S0 bw bs nv nc s w vF v1 v2 v3 v4 a1 a2 a3 a4 wr) (hbase:w.heap.size+1 < base) {gF:Nat} (hlo:base≤gF) {fr:List FrL} (hF:Zfg wr gF fr) (j:Nat) (u:Value):MkR k base S0 bw bs nv nc s w vF v1 v2 v3 v4 a1 a2 a3 a4 (wr.setCell ⟨gF,j,none⟩ u):=by
 obtain ⟨cur,hc,-⟩:=hF;have far:∀ {n:Nat} {v:Value} {xs:List Value},wr.ownsRow base 3 1 v n xs→(wr.setCell ⟨gF,j,none⟩ u).ownsRow base 3 1 v n xs:=fun hv=>Zp hv fun i hi=>Below.heap_setCell wr _ _ i fun e=>Zg hv hc (by decide) (by rw [hi,e]);exact h.next (X:=fun i=>i=gF) (Zl.set (own:=fun i=>i=gF) wr (p:=⟨gF,j,none⟩) rfl _) (fun i hi=>by subst hi; exact ⟨by omega,hc.ne_ h.pa.blk (by decide),h.pa.no_row hc (by decide) (by decide) (by decide)⟩) (Zk h.sb (h.sb.ne_ hc (by decide))) (far h.r1) (far h.r2) (far h.r3) (far h.r4)
end
theorem ZmY {w:World} {base n:Nat} {A:Option Addr} {c g:Nat} {fr:List FrL} (h:w.ownsRow base 74 5 (.slice A n c) n (Zem fr)) (hA:A=some ⟨g,0,none⟩):Zfg w g fr∧base≤g:=by
 subst hA
 rcases h.2 with ⟨q,-⟩ | ⟨g',cap,cur,e,q1,q2,q3,q4,q5,q6⟩
 ·cases q
 ·injection e with e1
  injection e1 with e1
  injection e1 with e1
  subst e1;refine ⟨⟨cur,q2,fun i u hu=>?_⟩,q1⟩;rw [← q6,List.getElem?_take] at hu
  split at hu
  ·simpa using hu
  ·cases hu
end
theorem Zi4 (par:List Int) (us:List (KP×Nat)) (u:KP×Nat) (v a:Int):inF par (us++[u]) v a=if (ZbP u.1).contains v then Zay par (inF par us v a) u.2 else inF par us v a:=by simp [inF]
theorem ZhN {w:Zr} (h:Zak w) (v:Int):∀ (us:List (KP×Nat)) (a:Int),(∀ u∈us,u.2 < w.par.length)→-1≤a→a < w.par.length→-1≤inF w.par us v a∧inF w.par us v a < w.par.length
 | [],a,_,h1,h2=>⟨h1,h2⟩
 | u :: us,a,hu,h1,h2=>by
   show -1≤inF w.par us v (if (ZbP u.1).contains v then Zay w.par a u.2 else a)∧_
   have:=hu u (by simp);have hm:=ZdX h h1 h2 (b:=(u.2:Int)) (by omega) (by omega);refine ZhN h v us _ (fun x hx=>hu x (by simp [hx])) ?_ ?_
   ·split <;> omega
   ·split <;> omega
def Zgd (par:List Int) (us:List (KP×Nat)) (nv i v:Nat):List Int:=tb nv fun x=>if x < v then inF par (us.take (i+1)) (x:Int) (-1) else inF par (us.take i) (x:Int) (-1)
theorem Zjw (par:List Int) (us:List (KP×Nat)) (nv:Nat):List.replicate nv (-1)=Zgd par us nv 0 0:=by
 rw [Zhk]
 exact ZK fun x _=>by rw [if_neg (by omega),List.take_zero]; rfl
theorem Zkp (par:List Int) (us:List (KP×Nat)) (nv i:Nat):Zgd par us nv i nv=Zgd par us nv (i+1) 0:=ZK fun x hx=>by rw [if_pos hx,if_neg (by omega)]
theorem Zml (par:List Int) (us:List (KP×Nat)) (nv:Nat):Zgd par us nv us.length 0=tb nv fun x=>inF par us (x:Int) (-1):=ZK fun x _=>by rw [if_neg (by omega),List.take_length]
theorem Zob (par:List Int) (us:List (KP×Nat)) {nv i v:Nat} (hv:v < nv):(Zgd par us nv i v)[v]? = some (inF par (us.take i) (v:Int) (-1)):=by
 unfold Zgd;rw [Zc1 _ hv,if_neg (Nat.lt_irrefl v)]
theorem Zko {par:List Int} {us:List (KP×Nat)} {nv i v:Nat} {u:KP×Nat} (hu:us[i]? = some u) (h:(ZbP u.1).contains (v:Int)=false):Zgd par us nv i v=Zgd par us nv i (v+1):=by
 refine ZK fun x hx=>?_
 by_cases hxv:x=v
 ·subst hxv;rw [if_neg (Nat.lt_irrefl x),if_pos (by omega),ZM hu,Zi4,h]
  simp
 ·by_cases h1:x < v
  ·rw [if_pos h1,if_pos (by omega)]
  ·rw [if_neg h1,if_neg (by omega)]
theorem Zmk {par:List Int} {us:List (KP×Nat)} {nv i v:Nat} {u:KP×Nat} (hu:us[i]? = some u) (h:(ZbP u.1).contains (v:Int)=true):(Zgd par us nv i v).set v (Zay par (inF par (us.take i) (v:Int) (-1)) u.2)=Zgd par us nv i (v+1):=by
 unfold Zgd;rw [Zd7];refine ZK fun x hx=>?_
 by_cases hxv:x=v
 ·subst hxv;rw [if_pos rfl,if_pos (by omega),ZM hu,Zi4,h,if_pos rfl]
 ·rw [if_neg hxv]
  by_cases h1:x < v
  ·rw [if_pos h1,if_pos (by omega)]
  ·rw [if_neg h1,if_neg (by omega)]
def ZqQ (out:Nat→Bool) (us:List (KP×Nat)) (c:Nat):Int:=if 2≤c∧out c=false∧(us.any fun u=>(Zau u.1).contains (c:Int))=true then 0 else -1
def Zha (out:Nat→Bool) (us:List (KP×Nat)) (nc c:Nat):List Int:=tb nc fun x=>if x < c then ZqQ out us x else -1
theorem ZnC (out:Nat→Bool) (us:List (KP×Nat)) (nc c:Nat):(Zha out us nc c).length=nc:=Zch _ _
theorem Zka (out:Nat→Bool) (us:List (KP×Nat)) (nc:Nat):List.replicate nc (-1)=Zha out us nc 2:=by
 rw [Zhk];refine ZK fun x _=>?_
 split
 ·unfold ZqQ; rw [if_neg (by omega)]
 ·rfl
theorem ZnD (w:Zr) (out:Nat→Bool) (nc:Nat):Zha out w.uses nc nc=Zg8 w out nc:=ZK fun x hx=>by rw [if_pos hx]; rfl
def Zcf (out:Nat→Bool) (us:List (KP×Nat)) (nc c i:Nat):List Int:=(Zha out us nc c).set c (if out c=false∧((us.take i).any fun u=>(Zau u.1).contains (c:Int))=true then 0 else -1)
theorem ZlX (out:Nat→Bool) (us:List (KP×Nat)) (nc c i:Nat):(Zcf out us nc c i).length=nc:=by unfold Zcf; rw [List.length_set,ZnC]
theorem Ziz (out:Nat→Bool) (us:List (KP×Nat)) (nc c:Nat):Zha out us nc c=Zcf out us nc c 0:=by
 unfold Zcf Zha;rw [Zd7];refine ZK fun x hx=>?_
 by_cases h:x=c
 ·subst h;rw [if_neg (Nat.lt_irrefl x),if_pos rfl,if_neg (by simp)]
 ·rw [if_neg h]
theorem ZlW {out:Nat→Bool} (us:List (KP×Nat)) {nc c:Nat} (i:Nat) (h:out c=true):Zcf out us nc c i=Zha out us nc (c+1):=by
 unfold Zcf Zha;rw [Zd7];refine ZK fun x hx=>?_
 by_cases hx:x=c
 ·subst hx;rw [if_pos rfl,if_pos (show x < x+1 by omega)];unfold ZqQ;rw [h]
  simp
 ·rw [if_neg hx]
  by_cases h1:x < c
  ·rw [if_pos h1,if_pos (by omega)]
  ·rw [if_neg h1,if_neg (by omega)]
theorem ZlY {out:Nat→Bool} (us:List (KP×Nat)) {nc c:Nat} (hc:2≤c):Zcf out us nc c us.length=Zha out us nc (c+1):=by
 unfold Zcf Zha;rw [Zd7,List.take_length];refine ZK fun x hx=>?_
 by_cases hx:x=c
 ·subst hx;rw [if_pos rfl,if_pos (show x < x+1 by omega)];unfold ZqQ
  have:(2≤x∧out x=false∧(us.any fun u=>(Zau u.1).contains (x:Int))=true) ↔ (out x=false∧(us.any fun u=>(Zau u.1).contains (x:Int))=true):=⟨fun h=>h.2,fun h=>⟨hc,h⟩⟩
  by_cases h:out x=false∧(us.any fun u=>(Zau u.1).contains (x:Int))=true
  ·rw [if_pos h,if_pos (this.2 h)]
  ·rw [if_neg h,if_neg fun q=>h (this.1 q)]
 ·rw [if_neg hx]
  by_cases h1:x < c
  ·rw [if_pos h1,if_pos (by omega)]
  ·rw [if_neg h1,if_neg (by omega)]
theorem Zkb {out:Nat→Bool} {us:List (KP×Nat)} {nc c i:Nat} {u:KP×Nat} (hu:us[i]? = some u) (h:(Zau u.1).contains (c:Int)=false):Zcf out us nc c i=Zcf out us nc c (i+1):=by
 unfold Zcf;rw [ZM hu,List.any_append,List.any_cons,h,List.any_nil,Bool.or_false,Bool.or_false]
theorem ZlV {out:Nat→Bool} {us:List (KP×Nat)} {nc c i:Nat} {u:KP×Nat} (hu:us[i]? = some u) (ho:out c=false) (h:(Zau u.1).contains (c:Int)=true):(Zcf out us nc c i).set c 0=Zcf out us nc c (i+1):=by
 unfold Zcf;rw [ZM hu,List.any_append,List.any_cons,h,ho,List.set_set]
 simp
structure ZqI (bs bw g2 ux nv c2 n cp v:Nat) (Ap:Option Addr) (vF v1 v3 v4:Value) (a mt:Int) (f:Nat) (W:World):Prop where
 c0:W.cell? ⟨bs,2,none⟩=some (.slice (some ⟨g2,0,none⟩) nv c2)
 c1:W.cell? ⟨bw,0,none⟩=some (.slice Ap n cp)
 c2:W.cell? ⟨g2,v,none⟩=some (.int .i64 a)
 c3:W.cell? ⟨ux,8,none⟩=some (.int .i64 f)
 l0:bs < W.heap.size
 l1:bw < W.heap.size
 l2:g2 < W.heap.size
 l3:ux < W.heap.size
 fz:W.frozen? ⟨g2,v,none⟩=false
 call:Calls Tryz.prog 26 #[.slice Ap n cp,.int .i64 a,.int .i64 f] W (fun e W'=>e = .returned (.int .i64 mt)∧W'=W)
theorem MkR.meet {k:KK} {base S0 bw bs nv nc:Nat} {s:PlR} {w wr:World} {vF v1 v3 v4:Value} {A2:Option Addr} {c2:Nat} {a1 a3 a4:List Int} {i v n ux cp:Nat} {u:KP×Nat} {Ap:Option Addr} {cs:Array Value}
  (h:MkR k base S0 bw bs nv nc s w vF v1 (.slice A2 nv c2) v3 v4 a1 (Zgd s.pl.par s.pl.uses nv i v) a3 a4 wr) (d:MkD base S0 bw bs s w v1 (.slice A2 nv c2) v3 v4) (hv:v < nv) (hu:s.pl.uses[i]? = some u) (hc:(ZbP u.1).contains (v:Int)=true) (ht:Zak s.pl)
  (hn:s.pl.par.length=n) (hn1:n≤1000000) (hvp:s.vp = .slice Ap n cp) (hb:Blk wr ux 81 cs) (h8:cs[8]? = some (.int .i64 u.2)) :
  ∃ (g2:Nat) (a mt:Int),A2=some ⟨g2,0,none⟩∧ZqI bs bw g2 ux nv c2 n cp v Ap vF v1 v3 v4 a mt u.2 wr.drew ∧
   MkR k base S0 bw bs nv nc s w vF v1 (.slice A2 nv c2) v3 v4 a1 (Zgd s.pl.par s.pl.uses nv i (v+1)) a3 a4 (wr.drew.setCell ⟨g2,v,none⟩ (.int .i64 mt))∧Blk (wr.drew.setCell ⟨g2,v,none⟩ (.int .i64 mt)) ux 81 cs:=by
 have hset:=Zmk (nv:=nv) (par:=s.pl.par) hu hc;have hat:=Zob s.pl.par s.pl.uses (i:=i) hv;have hpos:=ht.pos;have har:=ZhN ht (v:Int) (s.pl.uses.take i) (-1) (fun x hx=>ht.uses x (List.mem_of_mem_take hx)) (Int.le_refl _) (by omega);have hu2:=ht.uses u (List.mem_of_getElem? hu);generalize inF s.pl.par (s.pl.uses.take i) (v:Int) (-1)=a at *;obtain ⟨g2,cap2,hv2,hb2,hlt2⟩:=Z2 h.r2 (by omega)
 have hA2:A2=some ⟨g2,0,none⟩:=by injection hv2
 subst hA2;have z2:=World.ownsRow.cellAt h.r2 v (by omega);rw [Za7 hat] at z2;obtain ⟨cur2,z3⟩:=ZN h.r2 (k:=g2) rfl;have hrp:=h.pa.pr;rw [hvp,hn] at hrp;have z1:=h.pa.blk;rw [hvp] at z1;refine ⟨g2,a,Zay s.pl.par a u.2,rfl,⟨h.sb.drew.cell 2,z1.drew.cell 0,z2,(hb.drew.cell 8).trans h8,h.sb.drew.lt,z1.drew.lt,z3.drew.lt,hb.drew.lt,z3.drew.frozen v,?_⟩,?_,Zk hb.drew (hb.ne_ z3 (by decide))⟩
 ·have:=Zos ht a u.2 har.1 har.2 (by omega) (by omega) (by omega) Ap cp wr.drew.heap.size wr.drew (by rw [hn]; exact Zo.of_own hrp) (Nat.le_refl _);rw [hn] at this;exact this
 ·have:=(h.call (Below.refl _ _).drew).set2 d (g:=g2) rfl v (Zay s.pl.par a u.2);rw [hset] at this;exact this
theorem MkR.chan {k:KK} {base S0 bw bs nv nc:Nat} {s:PlR} {w wr:World} {vF v1 v2 v3:Value} {A4:Option Addr} {c4:Nat} {a1 a2 a3:List Int} {out:Nat→Bool} {us:List (KP×Nat)} {i c:Nat} {u:KP×Nat}
  (h:MkR k base S0 bw bs nv nc s w vF v1 v2 v3 (.slice A4 nc c4) a1 a2 a3 (Zcf out us nc c i) wr) (d:MkD base S0 bw bs s w v1 v2 v3 (.slice A4 nc c4)) (hc:c < nc) (hu:us[i]? = some u) (ho:out c=false) (hcc:(Zau u.1).contains (c:Int)=true) :
  ∃ (g4:Nat) (dv:Int),A4=some ⟨g4,0,none⟩∧wr.cell? ⟨bs,4,none⟩=some (.slice (some ⟨g4,0,none⟩) nc c4)∧wr.cell? ⟨g4,c,none⟩=some (.int .i64 dv)∧bs < wr.heap.size∧g4 < wr.heap.size∧wr.frozen? ⟨g4,c,none⟩=false ∧
   MkR k base S0 bw bs nv nc s w vF v1 v2 v3 (.slice A4 nc c4) a1 a2 a3 (Zcf out us nc c (i+1)) (wr.setCell ⟨g4,c,none⟩ (.int .i64 0)):=by
 obtain ⟨g4,cap4,hv4,hb4,hlt4⟩:=Z2 h.r4 (by omega)
 have hA4:A4=some ⟨g4,0,none⟩:=by injection hv4
 subst hA4;have z2:=World.ownsRow.cellAt h.r4 c (by omega)
 obtain ⟨dv,hdv⟩:∃ dv,(Zcf out us nc c i)[c]? = some dv:=⟨_,List.getElem?_eq_getElem (by rw [ZlX]; exact hc)⟩
 rw [Za7 hdv] at z2;obtain ⟨cur4,z3⟩:=ZN h.r4 (k:=g4) rfl;refine ⟨g4,dv,rfl,h.sb.cell 4,z2,h.sb.lt,hlt4,z3.frozen c,?_⟩;have:=h.set4 d (g:=g4) rfl c 0;rw [ZlV hu ho hcc] at this;exact this
theorem MkR.useAt {k:KK} {base S0 bw bs nv nc:Nat} {s:PlR} {w wr:World} {vF v1 v2 v3 v4:Value} {a1 a2 a3 a4:List Int} {Au:Option Addr} {nu cu i:Nat}
  (h:MkR k base S0 bw bs nv nc s w vF v1 v2 v3 v4 a1 a2 a3 a4 wr) (hvu:s.vu = .slice Au nu cu) (hnu:s.pl.uses.length=nu) (hi:i < nu) :
  ∃ b off u,Au=some ⟨b,off,none⟩∧b < wr.heap.size∧s.pl.uses[i]? = some u∧u∈s.pl.uses∧wr.cell? ⟨b,off+i * 9,none⟩=some (.int .u8 u.1.kind)∧wr.cell? ⟨b,off+i * 9+1,none⟩=some (.int .i64 u.1.c)∧wr.cell? ⟨b,off+i * 9+2,none⟩=some (.int .i64 u.1.v)∧wr.cell? ⟨b,off+i * 9+3,none⟩=some (.int .u8 u.1.item)∧wr.cell? ⟨b,off+i * 9+4,none⟩=some (.slice u.1.At u.1.tos.length u.1.ct)∧wr.cell? ⟨b,off+i * 9+5,none⟩=some (.slice u.1.Ae u.1.e.length u.1.ce)∧wr.cell? ⟨b,off+i * 9+6,none⟩=some (.slice u.1.Ag u.1.g.length u.1.cg)∧wr.cell? ⟨b,off+i * 9+7,none⟩=some (.slice u.1.Al u.1.l.length u.1.cl)∧wr.cell? ⟨b,off+i * 9+8,none⟩=some (.int .i64 u.2):=by
 have hru:=h.pa.us;rw [hvu,hnu] at hru;exact ZiL (us:=s.pl.uses) (by rw [hnu]; exact Zo.of_own hru) (k:=i) (by rw [hnu]; exact hi)
theorem Zn7 {k:KK} (kf:Za9 k) {p:KP} (hp:p=k.root∨p∈k.root.l) {pl:Zr} (hs:pl=Zd p) {nv nu:Nat} (hnv:k.vars.length=nv) (hnu:pl.uses.length=nu):Zgd pl.par pl.uses nv nu 0=ZbA k (Zd p):=by
 subst hnv hnu hs;rw [Zml,Zn8 kf hp]
theorem Zo2 {k:KK} (kf:Za9 k) (b:Nat) {p:KP} (hp:p=k.root∨p∈k.root.l) {pl:Zr} (hs:pl=Zd p) {nc:Nat} (hnc:k.chans.length=nc):Zha (ZY k b) pl.uses nc nc=Zdh k b (Zd p):=by
 subst hnc hs;rw [ZnD,Zo3 kf b hp]
theorem MkR.vins {k:KK} {base S0 bw bs nv nc nu:Nat} {s:PlR} {w wr:World} {vF v1 v2 v3 v4:Value} {a1 a3:List Int} {p:KP} {out:Nat→Bool} (kf:Za9 k) (hp:p=k.root∨p∈k.root.l) (hs:s.pl=Zd p) (hnv:k.vars.length=nv) (hnu:s.pl.uses.length=nu)
  (h:MkR k base S0 bw bs nv nc s w vF v1 v2 v3 v4 a1 (Zgd s.pl.par s.pl.uses nv nu 0) a3 (List.replicate nc (-1)) wr):MkR k base S0 bw bs nv nc s w vF v1 v2 v3 v4 a1 (ZbA k (Zd p)) a3 (Zha out s.pl.uses nc 2) wr:=by
 rw [← Zka,← Zn7 kf hp hs hnv hnu];exact h
theorem MkR.cnext {k:KK} {base S0 bw bs nv nc nu c:Nat} {s:PlR} {w wr:World} {vF v1 v2 v3 v4:Value} {a1 a2 a3:List Int} {out:Nat→Bool} (hnu:s.pl.uses.length=nu) (hc:2≤c)
  (h:MkR k base S0 bw bs nv nc s w vF v1 v2 v3 v4 a1 a2 a3 (Zcf out s.pl.uses nc c nu) wr):MkR k base S0 bw bs nv nc s w vF v1 v2 v3 v4 a1 a2 a3 (Zha out s.pl.uses nc (c+1)) wr:=by
 rw [← ZlY s.pl.uses hc,hnu];exact h
section
structure MkC (k:KK) (B b nv nc n nu:Nat) (p:KP) (s:PlR) (w:World):Prop where
 kf:Za9 k
 hbr:p=k.root∨p∈k.root.l
 hs:s.pl=Zd p
 hnv:k.vars.length=nv
 hnc:k.chans.length=nc
 hn:s.pl.par.length=n
 hnu:s.pl.uses.length=nu
 hin:k.In w B
 hB:B≤w.heap.size
def Zkl (k:KK) (p:KP) (f:Nat):List Int:=ZcM (ZbA k (Zd p)) (Zz k.vars) (fun _=>2) f 0
def ZlU (k:KK) (b nv nc:Nat) (p:KP) (f:Nat):List Int:=ZcM (Zdh k b (Zd p)) (List.replicate nc 1) (fun g=>2+ZaN (ZbA k (Zd p)) (Zz k.vars) g nv) f 0
def Zi8 (k:KK) (b nc:Nat) (p:KP) (f:Nat):List FrL:=ZoW (Zd p).par (ZaA (ZbA k (Zd p)) (Zdh k b (Zd p)) k.vars nc) (ZJ Zf (Zd p).uses) f
section
variable {k:KK} {B b base S0 bw bs nv nc n nu:Nat} {p:KP} {s:PlR} {w wr:World} {vF:Value} {A1 A2 A3 A4:Option Addr} {c1 c2 c3 c4 f:Nat}
theorem MkC.vlen (c:MkC k B b nv nc n nu p s w):(ZbA k (Zd p)).length=nv:=(Zfl p k.vars.length).trans c.hnv
theorem MkC.clen (c:MkC k B b nv nc n nu p s w):(Zdh k b (Zd p)).length=nc:=(ZfW p (ZbB k b) k.chans.length).trans c.hnc
theorem MkC.vr (c:MkC k B b nv nc n nu p s w):InR n (ZbA k (Zd p)):=by
 have:=ZcB p k.vars.length;rw [← c.hs,c.hn] at this;exact this
theorem MkC.cr (c:MkC k B b nv nc n nu p s w):InR n (Zdh k b (Zd p)):=by
 have:=ZcJ p (ZbB k b) k.chans.length;rw [← c.hs,c.hn] at this;exact this
theorem MkC.small (c:MkC k B b nv nc n nu p s w):n≤2048∧nu≤2048∧s.pl.grp.length≤2048:=by
 have:=c.kf.small c.hbr
 rwa [← c.hs,c.hn,c.hnu] at this
theorem MkC.uin (c:MkC k B b nv nc n nu p s w) {W:World} (h:Below w.heap.size w W):∀ u∈s.pl.uses,u.1.In W B:=fun u hu=>by
 have h1:=c.hin.below (h.mono c.hB)
 have h2:p.In W B:=by
  rcases c.hbr with rfl | h3
  ·exact h1.2.2.1
  ·exact h1.2.2.1.part h3
 rw [c.hs] at hu;exact Zh4 h2 u hu
theorem MkC.uok (c:MkC k B b nv nc n nu p s w):∀ u∈s.pl.uses,Ze2 u.1∧(ZL u.1).length≤48:=fun u hu=>by
 rw [c.hs] at hu;have hc:=ZaS (c.kf.all c.hbr) u hu;exact ⟨ZcK hc,ZgM hc⟩
theorem MkC.start {v1 v2 v3 v4:Value} (c:MkC k B b nv nc n nu p s w) (h:MkR k base S0 bw bs nv nc s w vF v1 v2 v3 v4 (List.replicate nv (-1)) (ZbA k (Zd p)) (List.replicate nc (-1)) (Zha (ZY k b) s.pl.uses nc nc) wr) :
  MkR k base S0 bw bs nv nc s w vF v1 v2 v3 v4 (Zkl k p 0) (ZbA k (Zd p)) (ZlU k b nv nc p 0) (Zdh k b (Zd p)) wr:=by
 have e1:List.replicate nv (-1)=Zkl k p 0:=by rw [← c.vlen]; exact Zhe _ _ _
 have e2:List.replicate nc (-1)=ZlU k b nv nc p 0:=by
  have:=Zhe (Zdh k b (Zd p)) (List.replicate nc 1) (fun g=>2+ZaN (ZbA k (Zd p)) (Zz k.vars) g nv);rw [c.clen] at this;exact this
 rw [← e1,← e2,← Zo2 c.kf b c.hbr c.hs c.hnc];exact h
def RetLs (k:KK) (b base S0 bw bs nv nc n:Nat) (p:KP) (s:PlR) (w:World) (vF v1 v2 v3 v4:Value) (f:Nat) (e:Ending) (W':World):Prop :=
 ∃ x:FrL,e = .returned (.agg #[.int .i64 x.parent,.int .i64 x.down,.int .i64 x.above,.int .i64 x.below,.int .i64 x.temp])∧Hid (Zi8 k b nc p (f+1)=Zi8 k b nc p f++[x]) ∧
  Hid (MkR k base S0 bw bs nv nc s w vF v1 v2 v3 v4 (Zkl k p (f+1)) (ZbA k (Zd p)) (ZlU k b nv nc p (f+1)) (Zdh k b (Zd p)) W')∧Hid (W'.ownsRow base 74 5 vF f (Zem (Zi8 k b nc p f)))
theorem MkC.lay (c:MkC k B b nv nc n nu p s w) (h:MkR k base S0 bw bs nv nc s w vF (.slice A1 nv c1) (.slice A2 nv c2) (.slice A3 nc c3) (.slice A4 nc c4) (Zkl k p f) (ZbA k (Zd p)) (ZlU k b nv nc p f) (Zdh k b (Zd p)) wr)
  (d:MkD base S0 bw bs s w (.slice A1 nv c1) (.slice A2 nv c2) (.slice A3 nc c3) (.slice A4 nc c4)) (hF:wr.ownsRow base 74 5 vF f (Zem (Zi8 k b nc p f))) (hbs:base≤wr.heap.size) (hf:f < n) :
  Calls Tryz.prog 29 #[.agg k.flat,.agg #[vF,.slice A1 nv c1,.slice A2 nv c2,.slice A3 nc c3,.slice A4 nc c4],.pointer (some ⟨bw,0,none⟩),.int .i64 f] wr
   (RetLs k b base S0 bw bs nv nc n p s w vF (.slice A1 nv c1) (.slice A2 nv c2) (.slice A3 nc c3) (.slice A4 nc c4) f):=by
 have hsm:=c.small;have hbase:=d.hbase;have hnv:=c.kf.nv;have hnc:=c.kf.nc;rw [c.hnv] at hnv;rw [c.hnc] at hnc
 have ht:Zak s.pl:=by rw [c.hs]; exact Zas p
 refine (rLay k B S0 bw base nv nc n A1 A2 A3 A4 c1 c2 c3 c4 s (ZbA k (Zd p)) (Zdh k b (Zd p)) vF f hf wr
  ⟨c.hin.below (h.bel.mono c.hB),Nat.le_trans c.hB (by omega),hbs,h.pa,c.uin h.bel,c.uok,by rw [c.hnu]; omega,c.hn,by omega,fun i hi=>?_,h.r1,h.r2,h.r3,h.r4,fun q hq=>?_,fun q hq=>((d.ne q).1 hq).2.1,c.vlen,c.hnv,c.clen,c.hnc,c.vr,c.cr,hnv,hnc,c.kf.dims⟩).mono ?_
 ·rw [List.getD_eq_getElem?_getD,List.getElem?_eq_getElem (by rw [c.hn]; exact hi)];unfold Zy;simp only [Option.getD_some]
  by_cases h0:i=0
  ·subst h0;have:=ht.root;rw [List.getElem?_eq_getElem (by rw [c.hn]; exact hi)] at this;have:=Option.some.inj this;rw [this]; omega
  ·have:=ht.up i _ (by omega) (List.getElem?_eq_getElem (by rw [c.hn]; exact hi))
   omega
 ·rcases hq with e | e
  ·exact ⟨((d.ne q).1 e).1,((d.ne q).1 e).2.2,ZbX h.pa h.r1 e,d.nr q (.inl e)⟩
  ·exact ⟨fun e2=>((d.ne q).2.1 e2).1 e,(d.ne q).2.2 e,ZbX h.pa h.r3 e,d.nr q (.inr (.inr (.inl e)))⟩
 ·rintro e W' ⟨rfl,hb,q1,q3⟩;obtain ⟨m1,m2⟩:=h.lay d hb.out q1.out q3.out hF;refine ⟨Zli s (ZbA k (Zd p)) (Zdh k b (Zd p)) k.vars nc f,rfl,Lh ?_,Lh ?_,Lh m2⟩
  ·unfold Zi8 ZoW Zli;rw [Zku,c.hs]
  ·have e1:((f:Int)+1)=((f+1:Nat):Int):=by omega
   rw [e1] at m1;exact m1
theorem ZlF (l:List FrL) (x:FrL):Zem (l++[x])=Zem l++x.cells:=by simp [Zem]
theorem MkC.frame {v1 v2 v3 v4:Value} {vF':Value} {w':World} {x:FrL} {a1 a3:List Int} (h:MkR k base S0 bw bs nv nc s w vF v1 v2 v3 v4 a1 (ZbA k (Zd p)) a3 (Zdh k b (Zd p)) wr) (d:MkD base S0 bw bs s w v1 v2 v3 v4)
  (hF:wr.ownsRow base 74 5 vF f (Zem (Zi8 k b nc p f))) (hx:Zi8 k b nc p (f+1)=Zi8 k b nc p f++[x]) (ho:w'.ownsRow base 74 5 vF' (f+1) (Zem (Zi8 k b nc p f)++[.int .i64 x.parent,.int .i64 x.down,.int .i64 x.above,.int .i64 x.below,.int .i64 x.temp])) (hg:wr.grownBy w' vF.ownBlock) :
  MkR k base S0 bw bs nv nc s w vF' v1 v2 v3 v4 a1 (ZbA k (Zd p)) a3 (Zdh k b (Zd p)) (w'.setCell ⟨bs,0,none⟩ vF')∧(w'.setCell ⟨bs,0,none⟩ vF').ownsRow base 74 5 vF' (f+1) (Zem (Zi8 k b nc p (f+1))):=by
 obtain ⟨m1,m2⟩:=h.frm d hF ho hg;refine ⟨m1,?_⟩;rw [hx,ZlF];exact m2
end
end
section
structure MkF (k:KK) (b base S0 bw bs nv nc n cF gF:Nat) (p:KP) (s:PlR) (w:World) (v1 v2 v3 v4:Value) (fr:List FrL) (wr:World):Prop where
 m:MkR k base S0 bw bs nv nc s w (.slice (some ⟨gF,0,none⟩) n cF) v1 v2 v3 v4 (Zkl k p n) (ZbA k (Zd p)) (ZlU k b nv nc p n) (Zdh k b (Zd p)) wr
 f:Zfg wr gF fr
 lo:base≤gF
 hb:w.heap.size+1 < base
def ZlH (k:KK) (b nc:Nat) (p:KP):List FrL:=frJ (Zd p).par (ZaA (ZbA k (Zd p)) (Zdh k b (Zd p)) k.vars nc) (ZJ Zf (Zd p).uses) (Zd p).par.length
section
variable {k:KK} {B b base S0 bw bs nv nc n nu cF gF:Nat} {p:KP} {s:PlR} {w wr:World} {v1 v2 v3 v4:Value} {fr:List FrL}
theorem MkF.drew (h:MkF k b base S0 bw bs nv nc n cF gF p s w v1 v2 v3 v4 fr wr):MkF k b base S0 bw bs nv nc n cF gF p s w v1 v2 v3 v4 fr wr.drew:=⟨h.m.call (Below.refl _ _).drew,h.f,h.lo,h.hb⟩
theorem MkF.set (h:MkF k b base S0 bw bs nv nc n cF gF p s w v1 v2 v3 v4 fr wr) {j i:Nat} {u:Value} {x x':FrL} (hk:fr[j]? = some x) (hi:i < 5) (hx:x'.cells=x.cells.set i u) :
  MkF k b base S0 bw bs nv nc n cF gF p s w v1 v2 v3 v4 (fr.set j x') (wr.setCell ⟨gF,j * 5+i,none⟩ u):=⟨h.m.setF h.hb h.lo h.f _ _,h.f.store hk hi hx,h.lo,h.hb⟩
theorem MkC.frames {AF:Option Addr} (c:MkC k B b nv nc n nu p s w) (h:MkR k base S0 bw bs nv nc s w (.slice AF n cF) v1 v2 v3 v4 (Zkl k p n) (ZbA k (Zd p)) (ZlU k b nv nc p n) (Zdh k b (Zd p)) wr) (d:MkD base S0 bw bs s w v1 v2 v3 v4)
  (hF:wr.ownsRow base 74 5 (.slice AF n cF) n (Zem (Zi8 k b nc p n))):∃ gF,AF=some ⟨gF,0,none⟩∧MkF k b base S0 bw bs nv nc n cF gF p s w v1 v2 v3 v4 (ZlH k b nc p) wr:=by
 have hpos:0 < n:=by
  have:Zak s.pl:=by rw [c.hs]; exact Zas p
  rw [← c.hn]; exact this.pos
 obtain ⟨gF,cap,hv,-,-⟩:=Z2 hF hpos
 have hA:AF=some ⟨gF,0,none⟩:=by injection hv
 obtain ⟨q1,q2⟩:=ZmY hF hA;subst hA;refine ⟨gF,rfl,h,?_,q2,d.hbase⟩
 have:Zi8 k b nc p n=ZlH k b nc p:=by
  have hn:n=(Zd p).par.length:=by rw [← c.hn,c.hs]
  subst hn;exact ZlG _ _ _
 rw [← this];exact q1
theorem MkC.fr0_par (c:MkC k B b nv nc n nu p s w):(ZlH k b nc p).length=n∧∀ (j:Nat) (x:FrL),(ZlH k b nc p)[j]? = some x→x.parent=s.pl.par.getD j (-1):=by
 have:=Zit (Zd p).par (ZaA (ZbA k (Zd p)) (Zdh k b (Zd p)) k.vars nc) (ZJ Zf (Zd p).uses) (Zd p).par.length;rw [← c.hn,c.hs];exact this
theorem parW {gs:List (List Nat)} {fr:List FrL} (h:fr.length=n∧∀ (j:Nat) (x:FrL),fr[j]? = some x→x.parent=s.pl.par.getD j (-1)) (hn:s.pl.par.length=n):(gs.foldl Zbc fr).length=n∧∀ (j:Nat) (x:FrL),(gs.foldl Zbc fr)[j]? = some x→x.parent=s.pl.par.getD j (-1):=by
 subst hn;exact Zdw gs h
theorem parW1 {g:List Nat} {q:Int×List FrL} (h:q.2.length=n∧∀ (j:Nat) (x:FrL),q.2[j]? = some x→x.parent=s.pl.par.getD j (-1)) (hn:s.pl.par.length=n):(g.foldl Za6 q).2.length=n∧∀ (j:Nat) (x:FrL),(g.foldl Za6 q).2[j]? = some x→x.parent=s.pl.par.getD j (-1):=by
 subst hn;exact Zen g h
theorem MkF.group {Ag:Option Addr} {ng cg i:Nat} {g:List Nat} (h:MkF k b base S0 bw bs nv nc n cF gF p s w v1 v2 v3 v4 fr wr) (hvg:s.vg = .slice Ag ng cg) (hng:s.pl.grp.length=ng) (hg:s.pl.grp[i]? = some g) :
  ∃ gg Ai ci,Ag=some ⟨gg,0,none⟩∧gg < wr.heap.size∧wr.cell? ⟨gg,i,none⟩=some (.slice Ai g.length ci)∧∀ (j f:Nat),g[j]? = some f→∃ gi,Ai=some ⟨gi,0,none⟩∧gi < wr.heap.size∧wr.cell? ⟨gi,j,none⟩=some (.int .i64 f):=by
 have hgp:=h.m.pa.gp;have hi:=(List.getElem?_eq_some_iff.1 hg).1;have h1:=hgp.1;rw [hvg,hng] at h1;obtain ⟨gg,cap,hv,-,hlt⟩:=Z2 h1 (by omega)
 have hA:Ag=some ⟨gg,0,none⟩:=by injection hv
 subst hA;obtain ⟨v,q1,q2,-⟩:=hgp.2.2 i g hg;obtain ⟨Ai,ci,rfl⟩:=Zv q2;have h3:=World.ownsRow.cellAt h1 i (by omega);rw [q1] at h3;refine ⟨gg,Ai,ci,rfl,hlt,h3,fun j f hf=>?_⟩;have hj:=(List.getElem?_eq_some_iff.1 hf).1;obtain ⟨gi,cx,hv2,-,hlt2⟩:=Z2 q2 (by omega)
 have hAi:Ai=some ⟨gi,0,none⟩:=by injection hv2
 subst hAi;have h4:=World.ownsRow.cellAt q2 j (by omega);exact ⟨gi,rfl,hlt2,by rw [h4]; unfold ZbS; rw [List.getElem?_map,hf]; rfl⟩
theorem MkC.kid {g:List Nat} {f:Nat} (c:MkC k B b nv nc n nu p s w) (hg:g∈s.pl.grp) (hf:f∈g) {d0:Int} (hp:fr.length=n∧∀ (j:Nat) (x:FrL),fr[j]? = some x→x.parent=s.pl.par.getD j (-1)) :
  ∃ (P:Nat) (x y:FrL) (d:Int),f < n∧P < n∧s.pl.par[f]? = some (P:Int)∧fr[f]? = some x∧wrap64 (d0+x.above)=d∧(fr.set f ⟨x.parent,d,x.above,x.below,x.temp⟩)[f]? = some ⟨x.parent,d,x.above,x.below,x.temp⟩∧(fr.set f ⟨x.parent,d,x.above,x.below,x.temp⟩)[P]? = some y ∧
   Za6 (d0,fr) f=(wrap64 (d+x.below),(fr.set f ⟨x.parent,d,x.above,x.below,x.temp⟩).set P ⟨y.parent,y.down,y.above,max y.below (wrap64 (d+x.below)),y.temp⟩):=by
 have ht:Zak s.pl:=by rw [c.hs]; exact Zas p
 obtain ⟨P,hP1,hP2⟩:=ht.grp g hg;have hpf:=hP2 f hf;have hfn:=(List.getElem?_eq_some_iff.1 hpf).1;rw [c.hn] at hP1 hfn
 obtain ⟨x,hx⟩:∃ x,fr[f]? = some x:=⟨_,List.getElem?_eq_getElem (by rw [hp.1]; exact hfn)⟩
 have hxp:x.parent=P:=by rw [hp.2 f x hx,List.getD_eq_getElem?_getD,hpf]; rfl
 have hPl:P < (fr.set f ⟨x.parent,wrap64 (d0+x.above),x.above,x.below,x.temp⟩).length:=by rw [List.length_set,hp.1]; exact hP1
 obtain ⟨y,hy⟩:∃ y,(fr.set f ⟨x.parent,wrap64 (d0+x.above),x.above,x.below,x.temp⟩)[P]? = some y:=⟨_,List.getElem?_eq_getElem hPl⟩
 refine ⟨P,x,y,wrap64 (d0+x.above),hfn,hP1,hpf,hx,rfl,List.getElem?_set_self (by rw [hp.1]; exact hfn),hy,?_⟩;unfold Za6
 have h1:fr.getD f default=x:=by rw [List.getD_eq_getElem?_getD,hx]; rfl
 simp only [h1,hxp,Int.toNat_natCast]
 have h2:(fr.set f ⟨(P:Int),wrap64 (d0+x.above),x.above,x.below,x.temp⟩).getD P default=y:=by rw [List.getD_eq_getElem?_getD,← hxp,hy]; rfl
 rw [h2]
theorem MkF.par {Ap:Option Addr} {cp f:Nat} {P:Int} (h:MkF k b base S0 bw bs nv nc n cF gF p s w v1 v2 v3 v4 fr wr) (hvp:s.vp = .slice Ap n cp) (hn:s.pl.par.length=n) (hf:s.pl.par[f]? = some P) :
  ∃ gp,Ap=some ⟨gp,0,none⟩∧gp < wr.heap.size∧wr.cell? ⟨gp,f,none⟩=some (.int .i64 P):=by
 have hrp:=h.m.pa.pr;rw [hvp,hn] at hrp;have hfn:=(List.getElem?_eq_some_iff.1 hf).1;obtain ⟨gp,cap,hv,-,hlt⟩:=Z2 hrp (by omega)
 have hA:Ap=some ⟨gp,0,none⟩:=by injection hv
 subst hA;have h3:=World.ownsRow.cellAt hrp f (by omega);rw [Za7 hf] at h3;exact ⟨gp,rfl,hlt,h3⟩
end
theorem Znk {s:PlR} {fr0:List FrL} {i:Nat} {g:List Nat} (hg:s.pl.grp[i]? = some g):(s.pl.grp.take (i+1)).foldl Zbc fr0=(g.foldl Za6 (5,(s.pl.grp.take i).foldl Zbc fr0)).2:=by
 rw [ZM hg,List.foldl_append]; rfl
theorem Znc {g:List Nat} {q f:Nat} {st:Int×List FrL} (hf:g[q]? = some f):(g.take (q+1)).foldl Za6 st=Za6 ((g.take q).foldl Za6 st) f:=by
 rw [ZM hf,List.foldl_append]; rfl
end
section
theorem ZeQ.drew24 {q:ZdL×Int} {w W:World} {e:Ending} (h:ZeQ q w e W):ZeQ q w e W.drew:=by
 obtain ⟨s,h1,h2,h3,h4⟩:=h;exact ⟨s,h1,h2,h3.below (Below.refl _ _).drew,h4.drew⟩
section
variable {k:KK} {B b base S0 bw bs nv nc n nu cF gF ng:Nat} {p:KP} {s:PlR} {w wr:World} {A1 A2 A3 A4:Option Addr} {c1 c2 c3 c4:Nat}
theorem MkC.fr_eq (c:MkC k B b nv nc n nu p s w) (hbp:Zh k b=p) (hng:s.pl.grp.length=ng):(s.pl.grp.take ng).foldl Zbc (ZlH k b nc p)=(Zs k b).fr:=by
 have h1:s.pl.grp.take ng=s.pl.grp:=List.take_of_length_le (by omega);rw [h1,c.hs,← hbp,← c.hnc]
 rfl
theorem MkC.vat_eq (c:MkC k B b nv nc n nu p s w) (hbp:Zh k b=p):Zkl k p n=(Zs k b).vat:=by
 unfold Zkl;rw [ZiG _ _ c.vr,← hbp]
 rfl
theorem MkC.cat_eq (c:MkC k B b nv nc n nu p s w) (hbp:Zh k b=p):ZlU k b nv nc p n=(Zs k b).cat:=by
 unfold ZlU;rw [ZiG _ _ c.cr,← hbp,← c.hnv,← c.hnc]
 rfl
theorem MkC.first (c:MkC k B b nv nc n nu p s w) (hbp:Zh k b=p) (hng:s.pl.grp.length=ng) :
  ∃ x0,((s.pl.grp.take ng).foldl Zbc (ZlH k b nc p))[0]? = some x0∧Zgf (Zs k b)=decide (16384 < wrap64 (x0.above+x0.below)):=by
 have hpos:0 < n:=by
  have:Zak s.pl:=by rw [c.hs]; exact Zas p
  rw [← c.hn]; exact this.pos
 have hl:=(parW (gs:=s.pl.grp.take ng) c.fr0_par c.hn).1;refine ⟨_,List.getElem?_eq_getElem (by omega),?_⟩;have h2:=c.fr_eq hbp hng;unfold Zgf;rw [← h2,List.getD_eq_getElem?_getD,List.getElem?_eq_getElem (by omega)]
 rfl
theorem Zfc {W:World} {A:Option Addr} {m cc:Nat} {l:List Int} (h:W.ownsRow base 3 1 (.slice A m cc) m (ZO l)) (hl:l.length=m) (hm:m≤1000000) (hv:∀ v∈l,Zy v):Zbf W W.heap.size A l:=by
 subst hl;exact ⟨by unfold ZB; omega,Zo.of_own h,hv⟩
theorem MkC.ret (c:MkC k B b nv nc n nu p s w) (hbp:Zh k b=p) (hng:s.pl.grp.length=ng) {W:World} (hb:Below w.heap.size w W) (hf:Zfg W gF (Zs k b).fr)
  (r1:W.ownsRow base 3 1 (.slice A1 nv c1) nv (ZO (Zkl k p n))) (r2:W.ownsRow base 3 1 (.slice A2 nv c2) nv (ZO (ZbA k (Zd p)))) (r3:W.ownsRow base 3 1 (.slice A3 nc c3) nc (ZO (ZlU k b nv nc p n))) (r4:W.ownsRow base 3 1 (.slice A4 nc c4) nc (ZO (Zdh k b (Zd p)))) :
  ZeQ (Zs k b,0) w (.returned (.tuple #[.agg #[.slice (some ⟨gF,0,none⟩) n cF,.slice A1 nv c1,.slice A2 nv c2,.slice A3 nc c3,.slice A4 nc c4],.int .i64 0])) W:=by
 have kf:=c.kf
 have hbr:Zh k b=k.root∨Zh k b∈k.root.l:=by rw [hbp]; exact c.hbr
 have hv:=kf.nv;have hc:=kf.nc;have hsm:=kf.small hbr;have htree:=Zas (Zh k b)
 have hwl:∀ (st:Int→Nat) (ins:List Int) (sz:List Nat),(Zbq st ins sz).length=ins.length:=fun st ins sz=>by simp [Zbq]
 have hl1:(Zs k b).fr.length=n:=by
  rw [← c.fr_eq hbp hng];exact (parW c.fr0_par c.hn).1
 have e2:ZbA k (Zd p)=(Zs k b).vin:=by rw [← hbp]; rfl
 have e4:Zdh k b (Zd p)=(Zs k b).cin:=by rw [← hbp]; rfl
 have hvl:(Zs k b).vin.length=nv:=by rw [← e2]; exact c.vlen
 have hcl:(Zs k b).cin.length=nc:=by rw [← e4]; exact c.clen
 have hal:(Zs k b).vat.length=nv:=by
  show (Za2 (ZbA k (Zd (Zh k b))) k.vars).length=_
  unfold Za2; rw [hwl]; exact hvl
 have hdl:(Zs k b).cat.length=nc:=by
  show (Zaq (ZbA k (Zd (Zh k b))) (Zdh k b (Zd (Zh k b))) k.vars k.chans.length).length=_
  unfold Zaq; rw [hwl]; exact hcl
 have hnv:=c.hnv;have hnc:=c.hnc;have hvat:∀ v∈(Zs k b).vat,Zy v:=ZbO (start:=fun _=>2) (ins:=ZbA k (Zd (Zh k b))) (sz:=Zz k.vars) (Zb3 kf.dims) (fun _=>by show 2≤1000000; omega) (by rw [show (ZbA k (Zd (Zh k b))).length=nv from hvl]; omega)
 have hcat:∀ v∈(Zs k b).cat,Zy v:=ZbO (M:=1) (start:=fun f=>2+ZaN (ZbA k (Zd (Zh k b))) (Zz k.vars) f k.vars.length) (ins:=Zdh k b (Zd (Zh k b))) (sz:=List.replicate k.chans.length 1) (ZdV _) (fun f=>by
  have:=ZcC kf.dims (ZbA k (Zd (Zh k b))) f k.vars.length hv
  show 2+ZaN (ZbA k (Zd (Zh k b))) (Zz k.vars) f k.vars.length≤1000000
  omega) (by rw [show (Zdh k b (Zd (Zh k b))).length=nc from hcl]; omega)
 rw [c.vat_eq hbp] at r1;rw [e2] at r2;rw [c.cat_eq hbp] at r3;rw [e4] at r4;refine ⟨⟨some ⟨gF,0,none⟩,cF,(Zs k b).fr,A1,c1,(Zs k b).vat,A2,c2,(Zs k b).vin,A3,c3,(Zs k b).cat,A4,c4,(Zs k b).cin⟩,?_,⟨rfl,rfl,rfl,rfl,rfl⟩,?_,hb⟩
 ·simp only [SpL.cells,hl1,hvl,hcl,hal,hdl]
 ·refine ⟨⟨by unfold ZB; rw [hl1]; have:=c.small; omega,ZhP hf,?_⟩,Zfc r1 hal (by omega) hvat,Zfc r2 hvl (by omega) ?_,Zfc r3 hdl (by omega) hcat,Zfc r4 hcl (by omega) ?_⟩
  ·refine ZfS _ (ZnY htree (by omega) (fun f=>?_) (fun f=>?_) _)
   ·have a:=ZcC kf.dims (ZbA k (Zd (Zh k b))) (f:Int) k.vars.length hv;have c:=ZbF (Zdh k b (Zd (Zh k b))) (List.replicate k.chans.length 1) 1 (ZdV _) (f:Int) k.chans.length;unfold ZaA Zbo
    omega
   ·have:=Zfa (Zd (Zh k b)).uses (fun u hu=>ZaS (kf.all hbr) u hu) f
    omega
  ·exact (ZcB (Zh k b) k.vars.length).i64 (by omega)
  ·exact (ZcJ (Zh k b) (ZbB k b) k.chans.length).i64 (by omega)
theorem MkC.some_ret (c:MkC k B b nv nc n nu p s w) (hbp:Zh k b=p) (hng:s.pl.grp.length=ng) (h:MkF k b base S0 bw bs nv nc n cF gF p s w (.slice A1 nv c1) (.slice A2 nv c2) (.slice A3 nc c3) (.slice A4 nc c4) ((s.pl.grp.take ng).foldl Zbc (ZlH k b nc p)) wr) :
  Blk (((((wr.setCell ⟨w.heap.size+1,0,none⟩ (.slice (some ⟨gF,0,none⟩) n cF)).setCell ⟨w.heap.size+1,1,none⟩ (.slice A1 nv c1)).setCell ⟨w.heap.size+1,2,none⟩ (.slice A2 nv c2)).setCell ⟨w.heap.size+1,3,none⟩ (.slice A3 nc c3)).setCell ⟨w.heap.size+1,4,none⟩ (.slice A4 nc c4)) (w.heap.size+1) 38 #[.slice (some ⟨gF,0,none⟩) n cF,.slice A1 nv c1,.slice A2 nv c2,.slice A3 nc c3,.slice A4 nc c4] ∧
  ZeQ (Zs k b,0) w (.returned (.tuple #[.agg #[.slice (some ⟨gF,0,none⟩) n cF,.slice A1 nv c1,.slice A2 nv c2,.slice A3 nc c3,.slice A4 nc c4],.int .i64 0])) (((((wr.setCell ⟨w.heap.size+1,0,none⟩ (.slice (some ⟨gF,0,none⟩) n cF)).setCell ⟨w.heap.size+1,1,none⟩ (.slice A1 nv c1)).setCell ⟨w.heap.size+1,2,none⟩ (.slice A2 nv c2)).setCell ⟨w.heap.size+1,3,none⟩ (.slice A3 nc c3)).setCell ⟨w.heap.size+1,4,none⟩ (.slice A4 nc c4)):=by
 have hs:=Zdu h.m.bel h.m.rb (Nat.le_succ _) (.slice (some ⟨gF,0,none⟩) n cF) (.slice A1 nv c1) (.slice A2 nv c2) (.slice A3 nc c3) (.slice A4 nc c4);generalize ((((wr.setCell ⟨w.heap.size+1,0,none⟩ (.slice (some ⟨gF,0,none⟩) n cF)).setCell ⟨w.heap.size+1,1,none⟩ (.slice A1 nv c1)).setCell ⟨w.heap.size+1,2,none⟩ (.slice A2 nv c2)).setCell ⟨w.heap.size+1,3,none⟩ (.slice A3 nc c3)).setCell ⟨w.heap.size+1,4,none⟩ (.slice A4 nc c4)=W2 at *;have far:∀ {A:Option Addr} {m cc:Nat} {xs:List Value},wr.ownsRow base 3 1 (.slice A m cc) m xs→W2.ownsRow base 3 1 (.slice A m cc) m xs:=fun ho=>Zp ho fun i hi=>hs.2.2 i fun e=>Zg ho h.m.rb (by decide) (e ▸ hi);refine ⟨hs.2.1,c.ret hbp hng hs.1 ?_ (far h.m.r1) (far h.m.r2) (far h.m.r3) (far h.m.r4)⟩;rw [← c.fr_eq hbp hng];obtain ⟨cur,hc,hcc⟩:=h.f;exact ⟨cur,(hs.2.2 gF (hc.ne_ h.m.rb (by decide))).trans hc,hcc⟩
theorem MkF.none_ret {v1 v2 v3 v4:Value} {fr:List FrL} {e:Int} (h:MkF k b base S0 bw bs nv nc n cF gF p s w v1 v2 v3 v4 fr wr) :
  Blk (((((wr.setCell ⟨w.heap.size+1,0,none⟩ (.slice none 0 0)).setCell ⟨w.heap.size+1,1,none⟩ (.slice none 0 0)).setCell ⟨w.heap.size+1,2,none⟩ (.slice none 0 0)).setCell ⟨w.heap.size+1,3,none⟩ (.slice none 0 0)).setCell ⟨w.heap.size+1,4,none⟩ (.slice none 0 0)) (w.heap.size+1) 38 Zdb ∧
  ZeQ (ZaJ,e) w (.returned (.tuple #[.agg Zdb,.int .i64 e])) (((((wr.setCell ⟨w.heap.size+1,0,none⟩ (.slice none 0 0)).setCell ⟨w.heap.size+1,1,none⟩ (.slice none 0 0)).setCell ⟨w.heap.size+1,2,none⟩ (.slice none 0 0)).setCell ⟨w.heap.size+1,3,none⟩ (.slice none 0 0)).setCell ⟨w.heap.size+1,4,none⟩ (.slice none 0 0)):=by
 have hs:=Zdu h.m.bel h.m.rb (Nat.le_succ _) (.slice none 0 0) (.slice none 0 0) (.slice none 0 0) (.slice none 0 0) (.slice none 0 0);exact ⟨hs.2.1,Zbe hs.1⟩
end
end
theorem Zib {P:Program} {n:Nat} {row:String} {args:Array Value} {w:World} {R:Value→World→Prop} (h:Rows P row args w R):RowsIn Fence.wide n P row args w R :=
 fun c cs _=>let ⟨v,w',r,s⟩:=h c cs; ⟨v,w',r,stepsIn_wide.2 s⟩
theorem ZaM {P:Program} {ops:Array Oper} {md:Region.Mode} {K:Act→World→Prop} {l n:Nat} (hc:∀ (i:Nat) (o:Oper),ops[i]? = some o→∀ c,o.op≠.defer c) :
  ∀ (fuel:Nat) (listed:Array Bool) (a:Act) (w:World),wpAny P md ops (Exit.then K (fun _ _ _=>False)) fuel listed a w→wpAnyIn (Fence.wide.inRound l) n P md ops (Exit.then K (fun _ _ _=>False)) fuel listed a w
 | 0,listed,a,w,h=>h
 | fuel+1,listed,a,w,h=>by
   refine ⟨h.1,fun i hi=>?_⟩;have h2:=h.2 i hi;unfold wpOp at h2;unfold wpOpIn
   cases ho:ops[i]? with
   | none=>rw [ho] at h2; exact ZaM hc fuel _ a w h2
   | some o =>
     rw [ho] at h2
     simp only at h2 ⊢
     have hcalm:=hc i o ho
     split
     ·rename_i hw;rw [if_pos hw] at h2
      have h3:o.wp P a w (wpAny P md ops (Exit.then K (fun _ _ _=>False)) fuel (listed.setIfInBounds i true)) (Exit.then K (fun _ _ _=>False)):=by
       rcases h2 with h2 | h2
       ·exact h2
       ·exact absurd h2.2 (by rintro ⟨_,_,hl⟩; exact hl)
      refine ⟨fun _ _=>trivial,?_⟩;unfold Oper.wp at h3;have hs:o.semAt (Fence.wide.inRound l).round a.eval=execOp a.eval o:=Oper.semAt_eq _ _ _ hcalm;rw [hs];generalize (execOp a.eval o).run P w=r at *
      cases r with
      | ok x w' =>
        cases x <;> simp only [Oper.upon,Oper.uponIn] at h3 ⊢
        all_goals first
         | exact ZaM hc fuel _ _ _ h3
         | exact h3.elim
         | exact ⟨fun h=>(by cases h),callsIn_wide.2 (Calls.mono h3 fun e w'' he=>by cases e <;> first | exact ZaM hc fuel _ _ _ he | exact he)⟩
         | exact ⟨fun h=>(by cases h),Zib (Rows.mono h3 fun v w'' he=>ZaM hc fuel _ _ _ he)⟩
      | halt x w'=>cases x <;> simp only [Oper.upon,Oper.uponIn] at h3 ⊢ <;> exact h3
     ·rename_i hw;rw [if_neg hw] at h2;exact ⟨fun _ _=>trivial,ZaM hc fuel _ _ _ h2⟩
theorem Zew {P:Program} {ops:Array Oper} {Q:Exit→Act→World→Prop} {l n id:Nat} {a:Act} {w:World} (S:World→Prop) (T:List Nat) (fuel:Nat) {listed:Array Bool} (hc:∀ (i:Nat) (o:Oper),ops[i]? = some o→∀ c,o.op≠.defer c) (hm:P.follows .mixedOrders=true) (hs:Region.noSelect ops=true) (hT:Zhl ops T (Array.replicate ops.size false)=true)
  (hl:ZgZ T (Array.replicate ops.size false)=listed) (hfu:ops.size=fuel+T.length) (hS:S w.drew)
  (h:∀ R:Act→Prop,(∀ a',wpAnyH P .any ops (Exit.then (fun a w=>Q .normal a w) (fun _ _ _=>False)) S fuel listed a' w.drew→R a')→ZgU P ops S R (T.filterMap (ops[·]?)) a):(Code.region id ops true).wpIn (Fence.wide.inRound l) n P Q a w:=by
 refine Ze3 ?_;refine wpIn_region_any hm (ZaM hc _ _ _ _ (wpAny_of_held (S:=S) _ _ _ _ ?_));subst hl;have h2:=ZcY (Q:=Exit.then (fun a w=>Q .normal a w) (fun _ _ _=>False)) hs (fun _ _ d _ _ h=>by cases d <;> exact h) hS T fuel (Array.replicate ops.size false) a hT (h _ fun _ h=>h);rw [← hfu] at h2;exact h2
end Go.Proofs.YtjndhfcfcedheaaGreatDoor
