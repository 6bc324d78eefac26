/- Texts that belong together: UP UQ UR CJ. -/
import Derived.Test.YtjndhfcfcedheaaGreatDoorHK8
import Derived.BigRegion
import Derived.Test.YtjndhfcfcedheaaGreatDoorHK3
import Derived.Test.YtjndhfcfcedheaaGreatDoorHK4
set_option linter.unusedVariables false
set_option linter.unusedSimpArgs false
set_option maxRecDepth 100000
set_option maxHeartbeats 16000000
namespace Go.Proofs.YtjndhfcfcedheaaGreatDoor
open Go.RowKit
theorem Zom (p:KP) (hb:Zdn p) (hil:∀ x∈p.l,Zf4 x) (hig:∀ g∈p.g,∀ x∈g.body,Zf4 x):Zf4 p:=by
 intro l f B S0 bw T J FP s0 W hw ht hf hex hj hp;obtain ⟨i0,hi0,hz0,hz1,hz2⟩:=info_parts Zcu;obtain ⟨j0,hj0,hy0,hy1,hy2⟩:=info_parts ZhM;have HWA:=Lh hw;have HIL:=Lh hil;have HIG:=Lh hig;have HBD:=Lh hb;have HST:=Lh (Zgr f p ht hf hex);have HTR:=Lh ht;have HFL:=Lh hf
 obtain ⟨m,hm⟩:∃ m,p.l.length=m:=⟨_,rfl⟩
 obtain ⟨mg,hmg⟩:∃ m,p.g.length=m:=⟨_,rfl⟩
 have hlen:=(hw.hD _ _ hj).one.1.2.2.2.2.2;have hlen2:=(hw.hD _ _ hj).one.1.2.2.2.2.1;have hkk:=(hw.hD _ _ hj).one.1.1;unfold ZB at hlen hlen2;rw [hm] at hlen;rw [hmg] at hlen2;have HS0:=Lh hp.hi;have HM:=Lh hm;have HMG:=Lh hmg
 obtain ⟨PA,hPA⟩:∃ q,p.Al=q:=⟨_,rfl⟩
 obtain ⟨PG,hPG⟩:∃ q,p.Ag=q:=⟨_,rfl⟩
 have HPA:=Lh hPA;have HPG:=Lh hPG;have S:=Lh (VsS.start hw hj hp);have HFS:Hid (f < 1000000):=Lh (by have h1:=ZI HST.out.1.2.2.1; have h2:=HST.out.1.2.1; have h3:=hw.h1; omega);have hf64:=HFS.out
 obtain ⟨W0,hW0⟩:∃ W0,W.alloc (.cells p.cells 31)=W0:=⟨_,rfl⟩
 rw [hW0] at S;have b0:=S.out.pb;have hpw:=b0.lt;have HPL:Hid (s0.pl=s0.pl):=Lh rfl;simp only [KP.cells,hm,hmg,hPA,hPG] at b0 hW0 S ⊢;obtain ⟨e0,e1,e2,e3,e4,e5,e6,e7⟩:=b0.c8;simp at e0 e1 e2 e3 e4 e5 e6 e7;clear b0 hj hw hm hmg hil hig hb hPA hPG ht hf hex hp;go_enter Tryz.func42,Tryz.ntmps42
 go_upto_region 1 with fail
 clear hW0
 go_cut [20] (fun s20 wx=>∃ s:PlS,s20 = .bool false∧Hid (s.pl=ZdQ f p s0.pl)∧Hid (VsS S0 bw T J s0 W #[.int .u8 p.kind,.int .i64 p.c,.int .i64 p.v,.int .u8 p.item,.slice p.At p.tos.length p.ct,.slice p.Ae p.e.length p.ce,.slice PG mg p.cg,.slice PA m p.cl] s wx))
 case first =>
  have hy:=ZeR (m:=8) (HWA.out.hY s0 (p,f) W0 S.out.j S.out.pa HTR.out HFL.out HST.out.1.2.2.1 HST.out.1.2.2.2.1);obtain ⟨fn,tmps,assign,body,hy1,hy2⟩:=hy;have HK:=Lh (And.intro HM.out (And.intro HMG.out (And.intro HPA.out HPG.out)));simp only [Zpp,KP.cells,HM.out,HMG.out,HPA.out,HPG.out] at hy1;have HY2:=Lh hy2;clear hy2;refine (wpIn_wide (n:=9)).1 ?_
  gi_wp2
  refine HY2.out.mono ?_;rintro e w1 ⟨rfl,hJ1,hp1,kx⟩;have S1:=Lh (S.out.more HS0.out (s':=Zoc s0 (p,f)) hJ1 hp1 (Zbn.yield kx _));clear hJ1 hp1 kx
  gi_wp2
  go_meet;exact ⟨Zoc s0 (p,f),rfl,Lh rfl,S1⟩
 case rest =>
  clear S e0 e1 e2 e3 e4 e5 e6 e7 hpw;obtain ⟨s1,rfl,HP1,S⟩:=hcut;have x1:=S.out.pb;have hpw:=x1.lt;obtain ⟨e0,e1,e2,e3,e4,e5,e6,e7⟩:=x1.c8;simp at e0 e1 e2 e3 e4 e5 e6 e7;clear x1
  go_upto_region 3 with fail
  go_cut [9] (fun s9 wx=>s9 = .bool (ZeX p)∧Hid (VsS S0 bw T J s0 W #[.int .u8 p.kind,.int .i64 p.c,.int .i64 p.v,.int .u8 p.item,.slice p.At p.tos.length p.ct,.slice p.Ae p.e.length p.ce,.slice PG mg p.cg,.slice PA m p.cl] s1 wx))
  case first =>
   by_cases h10:p.kind=10
   ·have y10:((p.kind:Int) == 10)=true:=by simp [h10]
    have hq:ZeX p=true:=by unfold ZeX; simp [h10]
    have HQ:=Lh hq;clear hq h10
    go_wp2_with fail
    go_meet;exact ⟨by rw [HQ.out],S⟩
   ·have y10:((p.kind:Int) == 10)=false:=by simp; omega
    by_cases h11:p.kind=11
    ·have y11:((p.kind:Int) == 11)=true:=by simp [h11]
     have hq:ZeX p=true:=by unfold ZeX; simp [h11]
     have HQ:=Lh hq;clear hq h10 h11
     go_wp2_with fail
     go_meet;exact ⟨by rw [HQ.out],S⟩
    ·have y11:((p.kind:Int) == 11)=false:=by simp; omega
     have hq:ZeX p=false:=by unfold ZeX; simp [h10,h11]
     have HQ:=Lh hq;clear hq h10 h11
     go_wp2_with fail
     go_meet;exact ⟨by rw [HQ.out],S⟩
  case rest =>
   clear S e0 e1 e2 e3 e4 e5 e6 e7 hpw;obtain ⟨rfl,S⟩:=hcut;have x1:=S.out.pb;have hpw:=x1.lt;obtain ⟨e0,e1,e2,e3,e4,e5,e6,e7⟩:=x1.c8;simp at e0 e1 e2 e3 e4 e5 e6 e7;clear x1
   go_upto_block 0 with fail
   obtain ⟨qp,hqp⟩:∃ q,ZeX p=q:=⟨_,rfl⟩
   have HQP:=Lh hqp;rw [hqp];clear hqp
   go_cut [8,10,12,13] (fun s8 s10 s12 s13 wx=>∃ s:PlS,Hid (s.pl=Zbz f p s0.pl)∧Hid (VsS S0 bw T J s0 W #[.int .u8 p.kind,.int .i64 p.c,.int .i64 p.v,.int .u8 p.item,.slice p.At p.tos.length p.ct,.slice p.Ae p.e.length p.ce,.slice PG mg p.cg,.slice PA m p.cl] s wx)∧Hid (GrL S0 W s10 (ZbD f p s0.pl) s wx))
   case first =>
    clear HIG HBD
    cases qp with
    | false =>
      have HW2:Hid (Zbz f p s0.pl=ZE f p.l s1.pl∧ZbD f p s0.pl=[]):=Lh (by unfold Zbz ZbD; rw [HQP.out,HP1.out]; exact ⟨rfl,rfl⟩)
      go_wp2_with fail
      go_loopw [10,32] (fun v i wr=>∃ (j:Nat) (s:PlS),j≤m∧v = .slice none 0 0∧i = .int .i64 j∧Hid (s.pl=ZE f (p.l.take j) s1.pl)∧Hid (VsS S0 bw T J s0 W #[.int .u8 p.kind,.int .i64 p.c,.int .i64 p.v,.int .u8 p.item,.slice p.At p.tos.length p.ct,.slice p.Ae p.e.length p.ce,.slice PG mg p.cg,.slice PA m p.cl] s wr)) (fun _ i _=>m - (intOf i).toNat)
      case atStart=>exact ⟨0,s1,Nat.zero_le _,rfl,rfl,Lh (by rw [List.take_zero,ZE]),S⟩
      case round =>
       clear S e0 e1 e2 e3 e4 e5 e6 e7 hpw;obtain ⟨j,s,hj,rfl,rfl,HP,S⟩:=hrel;have x1:=S.out.pb;have hpw:=x1.lt;obtain ⟨e0,e1,e2,e3,e4,e5,e6,e7⟩:=x1.c8;simp at e0 e1 e2 e3 e4 e5 e6 e7;clear x1
       by_cases hlt:j < m
       ·have hltI:(j:Int) < m:=by omega
        have hin:=HWA.out.hD _ _ S.out.j;have hBw:B≤wr.heap.size:=Nat.le_trans HWA.out.hB S.out.hS;obtain ⟨b,off,x,hA,hb,hx,hmx,c0,c1,c2,c3,c4,c5,c6,c7⟩:=Za4 hin.one.2.2.2.2 rfl (k:=j) (by rw [HM.out]; exact hlt);have hbw:b < wr.heap.size:=Nat.lt_of_lt_of_le hb hBw;obtain rfl:PA=some ⟨b,off,none⟩:=HPA.out.symm.trans hA;have S2:=Lh (S.out.call HWA.out ((Below.refl _ wr).alloc (Nat.le_refl _) (.cells x.cells 31)));have bx:=Blk.new wr 31 x.cells;have HN:Hid (ZE f (p.l.take (j+1)) s1.pl=Z7 f x s.pl):=Lh (by rw [HP.out]; exact ZdN f hx _);have hpart:=Zfi hx (f:=f) (w:=s1.pl) (FP:=FP) (by rw [HP1.out]; exact HST.out.1.1) (by rw [HP1.out]; exact HST.out.1.2.1) (by rw [← HW2.out.1]; exact HST.out.2.1.2.2);rw [← HP.out] at hpart;have HPT:=Lh hpart;simp only [KP.cells] at S2 bx;have HB:=Lh bx;have HC:Hid (∀ w1:World,VsS S0 bw T J s0 W #[.int .u8 p.kind,.int .i64 p.c,.int .i64 p.v,.int .u8 p.item,.slice p.At p.tos.length p.ct,.slice p.Ae p.e.length p.ce,.slice PG mg p.cg,.slice (some ⟨b,off,none⟩) m p.cl] s w1→Calls Tryz.prog 42 #[.pointer (some ⟨bw,0,none⟩),.agg x.cells,.int .i64 f,.func (.yield l) #[] #[]] w1 (ZnH S0 bw T J s0 W #[.int .u8 p.kind,.int .i64 p.c,.int .i64 p.v,.int .u8 p.item,.slice p.At p.tos.length p.ct,.slice p.Ae p.e.length p.ce,.slice PG mg p.cg,.slice (some ⟨b,off,none⟩) m p.cl] s (Z7 f x s.pl) w1)):=Lh fun w1 h=>h.visit (HIL.out x hmx) (HWA.out.part hmx) HS0.out HPT.out.1 HPT.out.2.1 HPT.out.2.2;simp only [KP.cells] at HC;clear bx hx hmx hA hin hpart
        go_upto_region 8 with fail
        generalize wr.alloc _=w2 at *;have x1:=S2.out.pb;have bx:=HB.out;have hxw:=bx.lt;clear c0 c1 c2 c3 c4 c5 c6 c7 e0 e1 e2 e3 e4 e5 e6 e7 HB S hbw hBw hb;obtain ⟨e0,e1,e2,e3,e4,e5,e6,e7⟩:=x1.c8;simp at e0 e1 e2 e3 e4 e5 e6 e7;obtain ⟨d0,d1,d2,d3,d4,d5,d6,d7⟩:=bx.c8;simp at d0 d1 d2 d3 d4 d5 d6 d7;clear x1 bx
        go_wp2_with (first
         | (go_at_call 42; (with_reducible refine (HC.out _ S2.out).mono ?_); rintro e1 w3 ⟨rfl,s',HP3,S3,HK3⟩))
        go_roundw
        case rel=>exact ⟨j+1,s',by omega,rfl,by go_num,Lh (by rw [HN.out]; exact HP3.out),S3⟩
        case measure=>simp [intOf]; omega
       ·have hltI:¬ (j:Int) < m:=by omega
        obtain rfl:m=j:=by omega
        have htk:p.l.take m=p.l:=List.take_of_length_le (by rw [HM.out]; omega);have HPE:Hid (s.pl=Zbz f p s0.pl):=Lh (by rw [HP.out,htk,HW2.out.1]);clear htk
        go_wp2_with fail
        go_meet;exact ⟨s,HPE,S,Lh (by rw [HW2.out.2]; exact GrL.nil _ _ _ _)⟩
    | true =>
      have HW2:Hid (Zbz f p s0.pl=(Zj f p.l s1.pl []).1∧ZbD f p s0.pl=(Zj f p.l s1.pl []).2):=Lh (by unfold Zbz ZbD; rw [HQP.out,HP1.out]; exact ⟨rfl,rfl⟩)
      go_wp2_with fail
      go_loopw [10,32] (fun v i wr=>∃ (j:Nat) (s:PlS),j≤m∧i = .int .i64 j∧Hid (s.pl=(Zj f (p.l.take j) s1.pl []).1)∧Hid (VsS S0 bw T J s0 W #[.int .u8 p.kind,.int .i64 p.c,.int .i64 p.v,.int .u8 p.item,.slice p.At p.tos.length p.ct,.slice p.Ae p.e.length p.ce,.slice PG mg p.cg,.slice PA m p.cl] s wr)∧Hid (GrL S0 W v (Zj f (p.l.take j) s1.pl []).2 s wr)) (fun _ i _=>m - (intOf i).toNat)
      case atStart=>exact ⟨0,s1,Nat.zero_le _,rfl,Lh (by rw [List.take_zero,Zj]),S,Lh (by rw [List.take_zero,Zj]; exact GrL.nil _ _ _ _)⟩
      case round =>
       clear S e0 e1 e2 e3 e4 e5 e6 e7 hpw;obtain ⟨j,s,hj,rfl,HP,S,G⟩:=hrel;obtain ⟨A,c,rfl⟩:=Zv G.out.1;have x1:=S.out.pb;have hpw:=x1.lt;obtain ⟨e0,e1,e2,e3,e4,e5,e6,e7⟩:=x1.c8;simp at e0 e1 e2 e3 e4 e5 e6 e7;clear x1
       by_cases hlt:j < m
       ·have hltI:(j:Int) < m:=by omega
        have hin:=HWA.out.hD _ _ S.out.j;have hBw:B≤wr.heap.size:=Nat.le_trans HWA.out.hB S.out.hS;obtain ⟨b,off,x,hA,hb,hx,hmx,c0,c1,c2,c3,c4,c5,c6,c7⟩:=Za4 hin.one.2.2.2.2 rfl (k:=j) (by rw [HM.out]; exact hlt);have hbw:b < wr.heap.size:=Nat.lt_of_lt_of_le hb hBw;obtain rfl:PA=some ⟨b,off,none⟩:=HPA.out.symm.trans hA;have kb:=(Below.refl wr.heap.size wr).alloc (Nat.le_refl _) (.cells x.cells 31);have S2:=Lh (S.out.call HWA.out kb);have G2:=Lh (G.out.call kb);have bx:=Blk.new wr 31 x.cells;have HN:Hid (Zj f (p.l.take (j+1)) s1.pl []=(Z7 s.pl.par.length x (ZaC f s.pl),(Zj f (p.l.take j) s1.pl []).2++[s.pl.par.length])):=Lh (by rw [HP.out]; exact ZdP f hx _ _);have hpart:=Zfk hx (f:=f) (w:=s1.pl) (FP:=FP) (by rw [HP1.out]; exact HST.out.1.1) (by rw [HP1.out]; exact HST.out.1.2.1) (by rw [← HW2.out.1]; exact HST.out.2.1.2.2);rw [← HP.out] at hpart;have HPT:=Lh hpart
        obtain ⟨ch,hch⟩:∃ ch,(Zj f (p.l.take j) s1.pl []).2=ch:=⟨_,rfl⟩
        rw [hch] at G G2 HN HPT ⊢;have hchl:ch.length=j:=HPT.out.2.2.2;have HCL:=Lh hchl
        have hval:(Value.slice A ch.length c) = .slice A j c:=by rw [hchl]
        rw [hval] at G2 ⊢;clear hchl hval
        obtain ⟨nf,hnf⟩:∃ nf,s.pl.par.length=nf:=⟨_,rfl⟩
        have HNF:=Lh hnf;have hft:=ZcH (f:=f) HPT.out.1 HPT.out.2.1;have HFT:=Lh hft
        have hlp:nf+1≤1000000:=by
         have h1:=ZI HPT.out.2.2.1.1;have h2:=ZI (ZaW x s.pl.par.length (ZaC f s.pl) hft.1 (by simp [ZaC])).2.1;have h3:=HWA.out.h1;simp only [ZaC,List.length_append,List.length_singleton] at h1 h2
         omega
        have hml:j≤nf:=by
         have h4:=Zez f (p.l.take j) s1.pl [] (by rw [HP1.out]; exact HST.out.1.1) (by rw [HP1.out]; exact HST.out.1.2.1) (by simp);rw [List.length_take,← HP.out,hnf] at h4;have:=HM.out
         omega
        simp only [KP.cells] at S2 bx G2;have HB:=Lh bx
        have HNR:Hid (¬ ZcT s wr.heap.size):=Lh fun h=>by have:=(S.out.pa.row_lt h S.out.pa.gp.len).2; omega
        have HCF:Hid (∀ w1:World,VsS S0 bw T J s0 W #[.int .u8 p.kind,.int .i64 p.c,.int .i64 p.v,.int .u8 p.item,.slice p.At p.tos.length p.ct,.slice p.Ae p.e.length p.ce,.slice PG mg p.cg,.slice (some ⟨b,off,none⟩) m p.cl] s w1→Calls Tryz.prog 43 #[.pointer (some ⟨bw,0,none⟩),.int .i64 f] w1 (fun e w'=>e = .returned (.int .i64 nf)∧∃ s',Hid (s'.pl=ZaC f s.pl)∧Hid (VsS S0 bw T J s0 W #[.int .u8 p.kind,.int .i64 p.c,.int .i64 p.v,.int .u8 p.item,.slice p.At p.tos.length p.ct,.slice p.Ae p.e.length p.ce,.slice PG mg p.cg,.slice (some ⟨b,off,none⟩) m p.cl] s' w')∧Hid (Zbn S0 s w1 s' w'))):=Lh fun w1 h=>(h.frame HWA.out HS0.out HPT.out.1 HPT.out.2.1 (by rw [HNF.out]; omega)).mono fun e w' q=>⟨by rw [← HNF.out]; exact q.1,q.2⟩
        have HC:Hid (∀ (s':PlS) (w1:World),s'.pl=ZaC f s.pl→VsS S0 bw T J s0 W #[.int .u8 p.kind,.int .i64 p.c,.int .i64 p.v,.int .u8 p.item,.slice p.At p.tos.length p.ct,.slice p.Ae p.e.length p.ce,.slice PG mg p.cg,.slice (some ⟨b,off,none⟩) m p.cl] s' w1→Calls Tryz.prog 42 #[.pointer (some ⟨bw,0,none⟩),.agg x.cells,.int .i64 nf,.func (.yield l) #[] #[]] w1 (ZnH S0 bw T J s0 W #[.int .u8 p.kind,.int .i64 p.c,.int .i64 p.v,.int .u8 p.item,.slice p.At p.tos.length p.ct,.slice p.Ae p.e.length p.ce,.slice PG mg p.cg,.slice (some ⟨b,off,none⟩) m p.cl] s' (Z7 nf x (ZaC f s.pl)) w1)):=Lh fun s' w1 hs' h=>by
         have:=h.visit (fr:=nf) (HIL.out x hmx) (HWA.out.part hmx) HS0.out (by rw [hs']; exact HFT.out.1) (by rw [hs']; simp [ZaC,HNF.out]) (by rw [hs',← HNF.out]; exact HPT.out.2.2.1);rw [hs'] at this;exact this
        simp only [KP.cells] at HC;rw [hnf] at HN;clear bx hx hmx hA hin hpart hch hnf hft kb
        go_upto_region 8 with fail
        generalize wr.alloc _=w2 at *;have x1:=S2.out.pb;have bx:=HB.out;have hxw:=bx.lt;clear c0 c1 c2 c3 c4 c5 c6 c7 e0 e1 e2 e3 e4 e5 e6 e7 S G hbw hBw hb;clear x1 bx
        go_upto_region 11 with (go_at_call 43; (with_reducible refine (HCF.out _ S2.out).mono ?_); rintro e1 w3 ⟨rfl,s3,HP3,S3,HK3⟩)
        have bx:=HB.out;have HB3:Hid (Blk w3 wr.heap.size 31 #[.int .u8 x.kind,.int .i64 x.c,.int .i64 x.v,.int .u8 x.item,.slice x.At x.tos.length x.ct,.slice x.Ae x.e.length x.ce,.slice x.Ag x.g.length x.cg,.slice x.Al x.l.length x.cl]):=Lh (HK3.out.blk bx (Nat.le_trans HS0.out (Nat.le_of_lt hpw)) HNR.out);have G3:=Lh (G2.out.more HS0.out HK3.out);have HNR3:=Lh (HK3.out.stay bx.lt HNR.out);clear bx HB S2 G2 HK3 HCF HNR hxw;have kb:=(Below.refl w3.heap.size w3).alloc (Nat.le_refl _) (.cells #[.int .i64 nf] 3);have S4:=Lh (S3.out.call HWA.out kb);have G4:=Lh (G3.out.call kb);have HB4:=Lh (HB3.out.call kb);have hz4:W.heap.size≤(w3.alloc (.cells #[.int .i64 nf] 3)).heap.size:=Nat.le_of_lt S4.out.size;have HO4:Hid ((w3.alloc (.cells #[.int .i64 nf] 3)).ownsRow W.heap.size 3 1 (.slice A j c) j (ZbS ch)):=Lh (by have:=G4.out.1; rw [HCL.out] at this; exact this)
        have hs1:j+1≤1099511627776:=by omega
        have hs2:(j+1) * 8≤140737488355328:=by omega
        clear kb S3 G3 HB3
        go_upto_region 12 with (at_builtin; refine Zcb Tryz.underlying32 hi0 hz0 hz1 hz2 rfl (by decide) HO4.out hz4 rfl (.tmp 41) (.tmp 43) rfl rfl w3.heap.size 1 1 #[.int .i64 nf] rfl (Blk.new w3 _ _) rfl (by simp [Value.oneCell']) hs1 hs2 ?_
                                intro v5 w5 ho5 hg5 hb5 hat5;obtain ⟨A5,c5,rfl⟩:=Zv ho5;have SG:=G4.out.grow HWA.out S4.out HS0.out HCL.out ho5 hg5 hat5;have S5:=Lh SG.1;have G5:=Lh SG.2;have HB5:=Lh (HB4.out.grown hg5 (fun e=>Zg G4.out.1 HB4.out (by decide) e.symm))
                                clear ho5 hg5 hb5 hat5 SG)
        clear S4 G4 HB4 hz4 HO4;have bx:=HB5.out;have hxw:=bx.lt;obtain ⟨d0,d1,d2,d3,d4,d5,d6,d7⟩:=bx.c8;simp at d0 d1 d2 d3 d4 d5 d6 d7;clear bx HB5
        go_wp2_with (first
         | (go_at_call 42; (with_reducible refine (HC.out _ _ HP3.out S5.out).mono ?_); rintro e1 w6 ⟨rfl,s6,HP6,S6,HK6⟩))
        have G6:=Lh (G5.out.more HS0.out HK6.out);have HP7:Hid (s6.pl=(Zj f (p.l.take (j+1)) s1.pl []).1):=Lh (by rw [HN.out]; exact HP6.out);have G7:Hid (GrL S0 W (.slice A5 (j+1) c5) (Zj f (p.l.take (j+1)) s1.pl []).2 s6 w6):=Lh (by rw [HN.out]; exact G6.out);clear HK6 G5 G6 HP6 HP3 S5
        go_roundw
        case rel=>exact ⟨j+1,s6,by omega,by go_num,HP7,S6,G7⟩
        case measure=>simp [intOf]; omega
       ·have hltI:¬ (j:Int) < m:=by omega
        obtain rfl:m=j:=by omega
        have htk:p.l.take m=p.l:=List.take_of_length_le (by rw [HM.out]; omega);have HPE:Hid (s.pl=Zbz f p s0.pl):=Lh (by rw [HP.out,htk,HW2.out.1]);have GE:Hid (GrL S0 W (.slice A (ZbD f p s0.pl).length c) (ZbD f p s0.pl) s wr):=Lh (by have:=G.out; rw [htk,← HW2.out.2] at this; exact this);have HLE:Hid ((Zj f (p.l.take m) s1.pl []).2.length=(ZbD f p s0.pl).length):=Lh (by rw [htk,HW2.out.2]);clear htk
        go_wp2_with fail
        go_meet;exact ⟨s,HPE,S,by rw [HLE.out]; exact GE⟩
   case rest =>
    clear S e0 e1 e2 e3 e4 e5 e6 e7 hpw HIL;obtain ⟨s2,HP2,S,G⟩:=hcut;obtain ⟨A,c,rfl⟩:=Zv G.out.1;have x1:=S.out.pb;have hpw:=x1.lt;obtain ⟨e0,e1,e2,e3,e4,e5,e6,e7⟩:=x1.c8;simp at e0 e1 e2 e3 e4 e5 e6 e7;clear x1
    have hgl:s2.pl.grp.length≤1000000:=by
     have h1:=ZI HST.out.2.1.2.2.2.2;rw [HP2.out];have:=HWA.out.h3
     omega
    obtain ⟨ng,hng⟩:∃ n,s2.pl.grp.length=n:=⟨_,rfl⟩
    have HNG:=Lh hng;rw [hng] at hgl;clear hng
    cases qp
    case' false =>
     obtain ⟨s3,HW3,S3⟩:∃ s3,Hid (s3.pl=ZcR f p s0.pl)∧Hid (VsS S0 bw T J s0 W #[.int .u8 p.kind,.int .i64 p.c,.int .i64 p.v,.int .u8 p.item,.slice p.At p.tos.length p.ct,.slice p.Ae p.e.length p.ce,.slice PG mg p.cg,.slice PA m p.cl] s3 wc):=⟨s2,Lh (by unfold ZcR; rw [HQP.out,HP2.out]; rfl),S⟩
     go_upto_region 17 with fail
    case' true =>
     have pb:=S.out.pa.blk;obtain ⟨Ag,cg,hvg⟩:=Zv S.out.pa.gp.1;have hlb:=pb.lt;have HO2:Hid (wc.ownsRow S0 32 1 (.slice Ag ng cg) ng s2.vs):=Lh (by have:=S.out.pa.gp.1; rw [hvg,HNG.out] at this; exact this);rw [HNG.out] at hvg;rw [hvg] at pb;have HVG:=Lh hvg;obtain ⟨g0,g1,g2⟩:=pb.c3;simp at g0 g1 g2;obtain ⟨h0,h1,h2⟩:=pb.z3;have kb:=(Below.refl wc.heap.size wc).alloc (Nat.le_refl _) (.cells #[.slice A (ZbD f p s0.pl).length c] 32);have S4:=Lh (S.out.call HWA.out kb);have G4:=Lh (G.out.call kb);have HO4:=Lh (HO2.out.alloc (.cells #[.slice A (ZbD f p s0.pl).length c] 32))
     have hs1:ng+1≤1099511627776:=by omega
     have hs2:(ng+1) * 24≤140737488355328:=by omega
     have hz4:S0≤(wc.alloc (.cells #[.slice A (ZbD f p s0.pl).length c] 32)).heap.size:=S4.out.hS;clear pb kb hvg HO2
     go_upto_region 16 with fail
     go_upto_region 17 with (at_builtin; refine Zcb Tryz.underlying55 hj0 hy0 hy1 hy2 rfl (by decide) HO4.out hz4 rfl (.tmp 57) (.tmp 59) rfl rfl wc.heap.size 1 1 #[.slice A (ZbD f p s0.pl).length c] rfl (Blk.new wc _ _) rfl (by simp [Value.oneCell']) hs1 hs2 ?_
                             intro v5 w5 ho5 hg5 hb5 hat5;obtain ⟨A5,c5,rfl⟩:=Zv ho5;have hg6:=hg5;have hat6:=hat5;rw [← HVG.out] at hg6 hat6;have hd5:=S4.out.pa.blk.grown hg6 (fun e=>Zg S4.out.pa.gp.1 S4.out.pa.blk (by decide) e.symm);have hd2:=hd5.cell 2;have hf2:=hd5.frozen 2;have hl2:=hd5.lt;simp at hd2;have SG:=Lh (S4.out.group (f:=f) HWA.out HS0.out G4.out rfl (by rw [HNG.out]; exact ho5) hg6 hat6)
                             clear ho5 hg5 hb5 hat5 hg6 hat6 hd5)
     generalize w5.setCell ⟨bw,2,none⟩ (.slice A5 (ng+1) c5)=w6 at *;obtain ⟨s3,hs3,-,-,S3'⟩:=SG.out;have HW3:Hid (s3.pl=ZcR f p s0.pl):=Lh (by unfold ZcR; rw [HQP.out,hs3,HP2.out]; rfl);have S3:=Lh S3';clear S3' hs3 SG S4 G4 HO4 g0 g1 g2 h0 h1 h2 hd2 hf2 hl2 e0 e1 e2 e3 e4 e5 e6 e7;have x1:=S3.out.pb;have hpw:=x1.lt;obtain ⟨e0,e1,e2,e3,e4,e5,e6,e7⟩:=x1.c8;simp at e0 e1 e2 e3 e4 e5 e6 e7;clear x1
    all_goals
     clear S HP2 HNG hgl G
     go_wp2_with fail
     go_loopw [66] (fun i wr=>∃ (j2:Nat) (s:PlS),j2≤mg∧i = .int .i64 j2∧Hid (s.pl=ZF f (p.g.take j2) s3.pl)∧Hid (VsS S0 bw T J s0 W #[.int .u8 p.kind,.int .i64 p.c,.int .i64 p.v,.int .u8 p.item,.slice p.At p.tos.length p.ct,.slice p.Ae p.e.length p.ce,.slice PG mg p.cg,.slice PA m p.cl] s wr)) (fun i _=>mg - (intOf i).toNat)
     case atStart=>exact ⟨0,s3,Nat.zero_le _,rfl,Lh (by rw [List.take_zero,ZF]),S3⟩
     case round =>
      clear S3 e0 e1 e2 e3 e4 e5 e6 e7 hpw;obtain ⟨j2,s,hj2,rfl,HP,S⟩:=hrel;have x1:=S.out.pb;have hpw:=x1.lt;obtain ⟨e0,e1,e2,e3,e4,e5,e6,e7⟩:=x1.c8;simp at e0 e1 e2 e3 e4 e5 e6 e7;clear x1
      by_cases hlt:j2 < mg
      ·have hltI:(j2:Int) < mg:=by omega
       have hin:=HWA.out.hD _ _ S.out.j;have hBw:B≤wr.heap.size:=Nat.le_trans HWA.out.hB S.out.hS;obtain ⟨b,off,g,hA,hb,hx,hmx,hG⟩:=Zb7 hin.one.2.2.2.1.1 rfl (k:=j2) (by rw [HMG.out]; exact hlt);have hbw:b < wr.heap.size:=Nat.lt_of_lt_of_le hb hBw;have HG:=Lh hG;obtain rfl:PG=some ⟨b,off,none⟩:=HPG.out.symm.trans hA;obtain ⟨qq,hq⟩:=HBD.out g hmx;have HQ:=Lh hq;have HMX:=Lh hmx;have S2:=Lh (S.out.call HWA.out ((Below.refl _ wr).alloc (Nat.le_refl _) (.cells g.flat 109)));have bx:=Blk.new wr 109 g.flat;have HB:=Lh bx
       have hwg:∀ w,Zga f g w=Z7 f qq w:=fun w=>by rw [Zcz,hq]
       have HN:Hid (ZF f (p.g.take (j2+1)) s3.pl=Z7 f qq s.pl):=Lh (by rw [HP.out,← hwg]; exact ZdO f hx _);have hpart:=Zfj hx (f:=f) (w:=s3.pl) (FP:=FP) (by rw [HW3.out]; exact HST.out.2.2.1) (by rw [HW3.out]; exact HST.out.2.2.2.1) (by rw [HW3.out]; exact HST.out.2.2.2.2.2);rw [← HP.out,hwg] at hpart;have HPT:=Lh hpart
       have hmq:qq∈g.body:=by rw [hq]; simp
       have HC:Hid (∀ w1:World,VsS S0 bw T J s0 W #[.int .u8 p.kind,.int .i64 p.c,.int .i64 p.v,.int .u8 p.item,.slice p.At p.tos.length p.ct,.slice p.Ae p.e.length p.ce,.slice (some ⟨b,off,none⟩) mg p.cg,.slice PA m p.cl] s w1→Calls Tryz.prog 42 #[.pointer (some ⟨bw,0,none⟩),.agg qq.cells,.int .i64 f,.func (.yield l) #[] #[]] w1 (ZnH S0 bw T J s0 W #[.int .u8 p.kind,.int .i64 p.c,.int .i64 p.v,.int .u8 p.item,.slice p.At p.tos.length p.ct,.slice p.Ae p.e.length p.ce,.slice (some ⟨b,off,none⟩) mg p.cg,.slice PA m p.cl] s (Z7 f qq s.pl) w1)):=Lh fun w1 h=>h.visit (HIG.out g hmx qq hmq) (HWA.out.guard hmx hmq) HS0.out HPT.out.1 HPT.out.2.1 HPT.out.2.2;simp only [KP.cells] at HC;clear bx hx hmx hG hA hin hq hmq hwg hpart
       go_upto_region 20 with (first
        | (refine Zaf rfl _ rfl (b:=b) (o:=off+j2 * 18) rfl HG.out ?_)
        | (refine Z9 rfl _ _ rfl (w:=wr) (g:=g) rfl rfl ?_))
       generalize wr.alloc _=w2 at *;have bx:=HB.out;have hxw:=bx.lt;clear e0 e1 e2 e3 e4 e5 e6 e7 S HG HB;have d17:=bx.cell 17
       simp [KG.flat] at d17
       clear bx;have hin2:=HWA.out.hD _ _ S2.out.j;have hBw2:B≤w2.heap.size:=Nat.le_trans HWA.out.hB S2.out.hS;obtain ⟨b2,off2,x,hA2,hb2,hx2,hmx2,c0,c1,c2,c3,c4,c5,c6,c7⟩:=Za4 (hin2.one.2.2.2.1.2 g HMX.out).2.2.2.2 rfl (k:=0) (by rw [HQ.out]; simp);have hq:=HQ.out
       have hxq:x=qq:=by rw [hq] at hx2; simpa using hx2.symm
       subst hxq;have hbw2:b2 < w2.heap.size:=Nat.lt_of_lt_of_le hb2 hBw2;rw [hq] at d17;rw [hA2] at d17;rw [Nat.zero_mul,Nat.add_zero] at c0 c1 c2 c3 c4 c5 c6 c7;simp only [List.length_singleton] at d17;clear hq hx2 hmx2 hA2 hin2 HQ
       go_wp2_with (first
        | (go_at_call 42; (with_reducible refine (HC.out _ S2.out).mono ?_); rintro e1 w3 ⟨rfl,s',HP3,S3,HK3⟩))
       go_roundw
       case rel=>exact ⟨j2+1,s',by omega,by go_num,Lh (by rw [HN.out]; exact HP3.out),S3⟩
       case measure=>simp [intOf]; omega
      ·have hltI:¬ (j2:Int) < mg:=by omega
       obtain rfl:mg=j2:=by omega
       have htk:p.g.take mg=p.g:=List.take_of_length_le (by rw [HMG.out]; omega);have HPE:Hid (s.pl=Z7 f p s0.pl):=Lh (by rw [HP.out,htk,HW3.out,Zdo]);clear htk
       go_wp2
       go_ret;exact ⟨rfl,s,HPE.out,by rw [← HPE.out]; exact S.out.j,S.out.pa,S.out.kp⟩
theorem Zpx (p:KP):p.all Zdn→Zf4 p:=by
 induction p using KP.ind with
 | h p ihg ihl =>
   intro h;rw [KP.all_iff] at h;obtain ⟨h1,h2,h3⟩:=h;exact Zom p h1 (fun x hx=>ihl x hx (h3 x hx)) (fun g hg x hx=>ihg g hg x hx (h2 g hg x hx))
def Zk7:PlS:=⟨⟨[],[],[],[]⟩,.slice none 0 0,.slice none 0 0,.slice none 0 0,[]⟩
theorem ZjJ {S0 bw:Nat} {T:List (KP×Nat)→Nat→Nat} {W:World} (hlo:bw < S0) (hhi:S0≤W.heap.size) (hb:Blk W bw 57 #[.slice none 0 0,.slice none 0 0,.slice none 0 0]):ZH S0 bw T Zk7 W :=
 ⟨hlo,hhi,hb,W.ownsRow_nil _ _ _,W.ownsRow_nil _ _ _,⟨W.ownsRow_nil _ _ _,by simp [Zk7],fun i g h=>by simp [Zk7] at h⟩,by simp [Zk7]⟩
theorem Zfs:Zak ⟨[-1],[],[],[]⟩:=by
 refine ⟨rfl,fun i x hi hx=>?_,by simp,by simp,rfl,by simp⟩;have:=(List.getElem?_eq_some_iff.1 hx).1;simp at this
 omega
def RetPc (S0 bw:Nat) (T:List (KP×Nat)→Nat→Nat) (J:List (KP×Nat)→World→Prop) (p:KP) (e:Ending) (W':World):Prop :=
 (∃ v,e = .returned v)∧J (Zd p).uses W'∧∃ s,s.pl=Zd p∧ZH S0 bw T s W'
theorem Zhq (p:KP) (hb:p.all Zdn) (g0 g1 l B S0 bw:Nat) (T:List (KP×Nat)→Nat→Nat) (J:List (KP×Nat)→World→Prop) (W:World) (hw:Zet p l B S0 bw T J (Zd p)) (b0:Blk W g0 54 #[.pointer (some ⟨bw,0,none⟩)]) (b1:Blk W g1 31 p.cells)
  (hlo:bw < S0) (hDb:∀ pre a,J pre a→Blk a g0 54 #[.pointer (some ⟨bw,0,none⟩)]∧Blk a g1 31 p.cells) (hhi:S0≤W.heap.size) (hbw:Blk W bw 57 #[.slice none 0 0,.slice none 0 0,.slice none 0 0]) (hj:J [] W) :
  Calls Tryz.prog 41 #[.func (.yield l) #[] #[],.pointer (some ⟨g0,0,none⟩),.pointer (some ⟨g1,0,none⟩)] W (RetPc S0 bw T J p):=by
 have hdr:Below W.heap.size W W.drew:=(Below.refl _ _).drew;have hj1:=hw.hJ _ _ _ hj (Zcc.below hdr hhi);have hp1:ZH S0 bw T Zk7 W.drew:=(ZjJ hlo hhi hbw).call hdr;have HCF:Hid (Calls Tryz.prog 43 #[.pointer (some ⟨bw,0,none⟩),.int .i64 (-1)] W.drew (fun e w'=>e = .returned (.int .i64 0)∧∃ s',s'.pl = { Zk7.pl with par:=Zk7.pl.par++[-1] }∧ZH S0 bw T s' w'∧Zbn S0 Zk7 W.drew s' w'∧Zcc S0 (fun k=>k=bw) W.drew w')):=Lh (ZnL S0 bw T Zk7 (-1) (by unfold Zy; omega) W.drew hp1 (hw.hT _ _ (by simp [Zk7])) (by simp [Zk7]))
 have HCV:Hid (∀ (s:PlS) (w1:World),s.pl=⟨[-1],[],[],[]⟩→J [] w1→ZH S0 bw T s w1→Calls Tryz.prog 42 #[.pointer (some ⟨bw,0,none⟩),.agg p.cells,.int .i64 0,.func (.yield l) #[] #[]] w1 (ZqA S0 bw T J s (Zd p) w1)):=Lh fun s w1 hs hjs hps=>by
  have:=Zpx p hb l 0 B S0 bw T J (Zd p) s w1 hw (by rw [hs]; exact Zfs) (by rw [hs]; simp) (by rw [hs]; exact Ext.refl _) (by rw [hs]; exact hjs) hps;rw [hs] at this;exact this
 have HJ:Hid (∀ a,Zcc S0 (fun k=>k=bw) W.drew a→J [] a):=Lh fun a h=>hw.hJ _ _ _ hj1 h;have HDB:=Lh hDb;clear hw hj hj1 hp1 hdr hb hbw hlo hDb;simp only [KP.cells] at b1 HCV HDB;have c0:=b0.cell 0;simp at c0;obtain ⟨e0,e1,e2,e3,e4,e5,e6,e7⟩:=b1.c8;simp at e0 e1 e2 e3 e4 e5 e6 e7;clear b0 b1;go_enter Tryz.func41,Tryz.ntmps41
 go_region_held3 (fun w'=>w'.cell? ⟨g0,0,none⟩=some (.pointer (some ⟨bw,0,none⟩))∧w'.cell? ⟨g1,0,none⟩=some (.int .u8 p.kind)∧w'.cell? ⟨g1,1,none⟩=some (.int .i64 p.c)∧w'.cell? ⟨g1,2,none⟩=some (.int .i64 p.v)∧w'.cell? ⟨g1,3,none⟩=some (.int .u8 p.item)∧w'.cell? ⟨g1,4,none⟩=some (.slice p.At p.tos.length p.ct)∧w'.cell? ⟨g1,5,none⟩=some (.slice p.Ae p.e.length p.ce)∧w'.cell? ⟨g1,6,none⟩=some (.slice p.Ag p.g.length p.cg)∧w'.cell? ⟨g1,7,none⟩=some (.slice p.Al p.l.length p.cl))
  (first | exact ⟨c0,e0,e1,e2,e3,e4,e5,e6,e7⟩ | exact KF | exact KF3)
  (first
  | (go_at_call 43; (with_reducible refine HCF.out.mono ?_); rintro e1 w2 ⟨rfl,s2,hs2,hp2,hk2,hst2⟩
     have J2:=Lh (HJ.out _ hst2);have B0:=(HDB.out _ _ J2.out).1;have B1:=(HDB.out _ _ J2.out).2
     have KF:w2.cell? ⟨g0,0,none⟩=some (.pointer (some ⟨bw,0,none⟩))∧w2.cell? ⟨g1,0,none⟩=some (.int .u8 p.kind)∧w2.cell? ⟨g1,1,none⟩=some (.int .i64 p.c)∧w2.cell? ⟨g1,2,none⟩=some (.int .i64 p.v)∧w2.cell? ⟨g1,3,none⟩=some (.int .u8 p.item)∧w2.cell? ⟨g1,4,none⟩=some (.slice p.At p.tos.length p.ct)∧w2.cell? ⟨g1,5,none⟩=some (.slice p.Ae p.e.length p.ce)∧w2.cell? ⟨g1,6,none⟩=some (.slice p.Ag p.g.length p.cg)∧w2.cell? ⟨g1,7,none⟩=some (.slice p.Al p.l.length p.cl):=⟨B0.cell 0,B1.cell 0,B1.cell 1,B1.cell 2,B1.cell 3,B1.cell 4,B1.cell 5,B1.cell 6,B1.cell 7⟩
     have P2:=Lh hp2;have HS2:Hid (s2.pl=⟨[-1],[],[],[]⟩):=Lh (by rw [hs2]; rfl)
     clear hs2 hp2 hk2 hst2 B0 B1)
  | (go_at_call 42; (with_reducible refine (HCV.out _ _ HS2.out J2.out P2.out).mono ?_); rintro e1 w3 ⟨rfl,s3,hs3,hj3,hp3,hk3⟩
     have B0:=(HDB.out _ _ hj3).1;have B1:=(HDB.out _ _ hj3).2
     have KF3:w3.cell? ⟨g0,0,none⟩=some (.pointer (some ⟨bw,0,none⟩))∧w3.cell? ⟨g1,0,none⟩=some (.int .u8 p.kind)∧w3.cell? ⟨g1,1,none⟩=some (.int .i64 p.c)∧w3.cell? ⟨g1,2,none⟩=some (.int .i64 p.v)∧w3.cell? ⟨g1,3,none⟩=some (.int .u8 p.item)∧w3.cell? ⟨g1,4,none⟩=some (.slice p.At p.tos.length p.ct)∧w3.cell? ⟨g1,5,none⟩=some (.slice p.Ae p.e.length p.ce)∧w3.cell? ⟨g1,6,none⟩=some (.slice p.Ag p.g.length p.cg)∧w3.cell? ⟨g1,7,none⟩=some (.slice p.Al p.l.length p.cl):=⟨B0.cell 0,B1.cell 0,B1.cell 1,B1.cell 2,B1.cell 3,B1.cell 4,B1.cell 5,B1.cell 6,B1.cell 7⟩
     clear B0 B1))
 all_goals
  go_wp2
  go_end0
  exact ⟨⟨_,rfl⟩,hj3,s3,hs3,hp3⟩
def ZpG (p:KP) (s:PlS) (x:KP×Nat):Prop:=Zak s.pl∧x.2 < s.pl.par.length∧s.pl.par <+: (Zd p).par
def ZmS (p:KP) (B bw g0 g1:Nat) (W:World):Prop:=p.In W B∧Blk W g0 54 #[.pointer (some ⟨bw,0,none⟩)]∧Blk W g1 31 p.cells
theorem ZkH (p:KP) (hb:p.all Zdn) (g0 g1 B S0 bw n:Nat) (T:List (KP×Nat)→Nat→Nat) (w:World) (hlo:bw < S0) (hhi:S0≤w.heap.size) (hbw:Blk w bw 57 #[.slice none 0 0,.slice none 0 0,.slice none 0 0]) (hd:ZmS p B bw g0 g1 w) (hB:B≤S0) (hT:∀ us f,(∀ u∈us,u.2≠f)→T us f=0)
  (h1:(Zd p).par.length≤1000000) (h3:(Zd p).grp.length≤1000000) :
  Zqw Fence.wide n Tryz.prog 41 #[.pointer (some ⟨g0,0,none⟩),.pointer (some ⟨g1,0,none⟩)] Zpp S0 (fun k=>k=bw) (ZH S0 bw T) (fun s:PlS=>s.pl.uses) Zoc (XS S0 bw) (ZpG p) (fun s=>s.pl=Zd p) (ZmS p B bw g0 g1) (Zd p).uses w:=by
 intro l J W hbel hJ hD hY h0;refine callsIn_wide.2 ?_;have hdW:=hD _ _ h0;refine (Zhq p hb g0 g1 l B S0 bw T J W ⟨hB,hJ,hT,fun pre a h=>(hD pre a h).1,h1,h3,fun s x W1 hj hp ht hx hpar hus=>?_⟩ hdW.2.1 hdW.2.2 hlo (fun pre a h=>(hD pre a h).2) (Nat.le_trans hhi hbel.size) (hbw.call hbel) h0).mono ?_
 ·obtain ⟨t,htt⟩:=hus;obtain ⟨fn,tmps,assign,body,q1,q2⟩:=ZeR (m:=0) (hY s x t W1 hj hp ⟨ht,hx,hpar⟩ (by rw [← htt,List.append_assoc]; rfl));exact ⟨fn,tmps,assign,body,q1,q2⟩
 ·rintro e W' ⟨hv,hj,s,hs,hp⟩;exact ⟨hv,hj,s,by show s.pl.uses=_; rw [hs],hs,hp⟩
theorem ZhG {w:Zr} (h:Zak w) {x y R:Int} (hx0:0≤x) (hx:x < w.par.length) (hy0:0≤y) (hy:y < w.par.length) (hR:∀ q:Nat,x+y < q→ZbI w.par q x y=R):x≠y →
  (x < y→∀ q:Nat,upW w.par y+x < q→ZbI w.par q (upW w.par y) x=R)∧(¬ x < y→∀ q:Nat,upW w.par x+y < q→ZbI w.par q (upW w.par x) y=R):=by
 intro hne;have h1:=hR (2 * w.par.length+3) (by omega);rw [ZaP,if_neg hne] at h1;refine ⟨fun hl q hq=>?_,fun hl q hq=>?_⟩
 ·rw [if_pos hl] at h1;have hp:=h.parent (a:=y) (by omega) hy;rw [← h1];exact ((Zdv h (2 * w.par.length+2) x _ hx0 hx hp.1 (by omega) (by omega) q (by omega)).2).symm
 ·rw [if_neg hl] at h1;have hp:=h.parent (a:=x) (by omega) hx;rw [← h1];exact ((Zdv h (2 * w.par.length+2) _ y hp.1 (by omega) hy0 hy (by omega) q (by omega)).1).symm
theorem ZfC {S0 bw:Nat} {T:List (KP×Nat)→Nat→Nat} {s:PlS} {W:World} (h:ZH S0 bw T s W) {k:Nat} (hk:k < s.pl.par.length) :
  ∃ b c,s.vf = .slice (some ⟨b,0,none⟩) s.pl.par.length c∧b < W.heap.size∧W.cell? ⟨b,k * 5,none⟩=some (.int .i64 (upW s.pl.par k)):=by
 obtain ⟨g,cap,hv,hb,hlt⟩:=h.fr.form (by omega);refine ⟨g,cap,hv,hlt,?_⟩;have hc:=h.fr.cells (g:=g) (by rw [hv]; rfl);have hq:s.pl.par[k]? = some s.pl.par[k]:=List.getElem?_eq_getElem hk
 have h1:(Zan s.pl.par)[k]? = some ⟨s.pl.par[k],0,0,5,0⟩:=by unfold Zan; rw [List.getElem?_map,hq]; rfl
 have h2:(Zem (Zan s.pl.par))[k * 5+0]? = some (.int .i64 s.pl.par[k]):=(ZdZ FrL.cells_len h1 0 (by decide)).trans rfl;have h3:=hc _ _ h2
 have hadd:(⟨g,0,none⟩:Addr).add (k * 5+0)=⟨g,k * 5,none⟩:=by unfold Addr.add; split <;> simp_all
 rw [hadd] at h3;rw [h3];unfold upW;rw [Int.toNat_natCast,List.getD_eq_getElem?_getD,hq]
 rfl
theorem sMeet (S0 bw:Nat) (T:List (KP×Nat)→Nat→Nat) (s:PlS) (a b:Int) (ht:Zak s.pl) (ha:-1≤a) (ha2:a < s.pl.par.length) (hb:0≤b) (hb2:b < s.pl.par.length) (hl:s.pl.par.length≤1000000) (W:World) (h:ZH S0 bw T s W) :
  Calls Tryz.prog 16 #[.pointer (some ⟨bw,0,none⟩),.int .i64 a,.int .i64 b] W (fun e W'=>e = .returned (.int .i64 (Zay s.pl.par a b))∧W'=W):=by
 have HP:=Lh h;have HT:=Lh ht;have b0:=h.blk;have hlt:=b0.lt;obtain ⟨A1,c1,hvf⟩:=Zv h.fr;have HV:=Lh hvf;have HF:=Lh hl
 obtain ⟨n,hn⟩:∃ n,s.pl.par.length=n:=⟨_,rfl⟩
 have HN:=Lh hn;rw [hvf,hn] at b0;rw [hn] at ha2 hb2 hl;obtain ⟨e0,e1,e2⟩:=b0.c3;simp at e0 e1 e2;clear b0 h hvf hn ht
 by_cases h0:a < 0
 ·have hR:Zay s.pl.par a b=b:=by unfold Zay; rw [if_pos h0]
  rw [hR];clear hR;go_enter Tryz.func16,Tryz.ntmps16
  go_wp2
  go_ret;exact ⟨rfl,rfl⟩
 ·have hR:∀ q:Nat,a+b < q→ZbI s.pl.par q a b=Zay s.pl.par a b:=fun q hq=>by
   unfold Zay;rw [if_neg h0];exact (Zdv HT.out q a b (by omega) (by rw [HN.out]; exact ha2) hb (by rw [HN.out]; exact hb2) hq (2 * s.pl.par.length+2) (by have:=HN.out; omega)).1
  generalize Zay s.pl.par a b=R at *;have HR:=Lh hR;clear hR;go_enter Tryz.func16,Tryz.ntmps16
  go_wp2_with fail
  go_loopw [1,2] (fun u v wr=>∃ x y:Int,u = .int .i64 x∧v = .int .i64 y∧wr=W∧0≤x∧x < n∧0≤y∧y < n∧Hid (∀ q:Nat,x+y < q→ZbI s.pl.par q x y=R)) (fun u v _=>(intOf u+intOf v).toNat)
  case atStart=>exact ⟨a,b,rfl,rfl,rfl,by omega,ha2,hb,hb2,HR⟩
  case round =>
   obtain ⟨x,y,rfl,rfl,rfl,hx0,hx,hy0,hy,HQ⟩:=hrel
   by_cases he:x=y
   ·subst he
    have hres:x=R:=by have:=HQ.out (2 * n+2) (by omega); rw [ZaP,if_pos rfl] at this; exact this
    go_wp2
    go_ret;exact ⟨by rw [← hres]; rfl,rfl⟩
   ·have hnx:=ZhG HT.out hx0 (by rw [HN.out]; exact hx) hy0 (by rw [HN.out]; exact hy) HQ.out he;have HX:=Lh hnx;clear hnx
    by_cases hlt2:x < y
    ·obtain ⟨yn,rfl⟩:∃ k:Nat,y=k:=⟨y.toNat,by omega⟩
     obtain ⟨gb,gc,hv,hgb,hcell⟩:=ZfC HP.out (k:=yn) (by rw [HN.out]; omega);rw [HV.out,HN.out] at hv
     obtain ⟨rfl,rfl⟩:A1=some ⟨gb,0,none⟩∧c1=gc:=by injection hv with a b c; exact ⟨a,c⟩
     have hpp:=HT.out.parent (a:=(yn:Int)) (by omega) (by rw [HN.out]; exact hy);have HX2:=Lh (HX.out.1 hlt2);generalize upW s.pl.par yn=z at *;clear hv HX
     go_wp2_with fail
     go_roundw
     case rel=>exact ⟨z,x,rfl,rfl,trivial,by omega,by omega,by omega,by omega,HX2⟩
     case measure=>simp [intOf]; omega
    ·obtain ⟨xn,rfl⟩:∃ k:Nat,x=k:=⟨x.toNat,by omega⟩
     obtain ⟨gb,gc,hv,hgb,hcell⟩:=ZfC HP.out (k:=xn) (by rw [HN.out]; omega);rw [HV.out,HN.out] at hv
     obtain ⟨rfl,rfl⟩:A1=some ⟨gb,0,none⟩∧c1=gc:=by injection hv with a b c; exact ⟨a,c⟩
     have hpp:=HT.out.parent (a:=(xn:Int)) (by omega) (by rw [HN.out]; exact hx);have HX2:=Lh (HX.out.2 hlt2);generalize upW s.pl.par xn=z at *;clear hv HX
     go_wp2_with fail
     go_roundw
     case rel=>exact ⟨z,y,rfl,rfl,trivial,by omega,by omega,by omega,by omega,HX2⟩
     case measure=>simp [intOf]; omega
def Zph (s:SpL) (frame v:Int):Option Int:=Zbr s.fr frame v s.vat s.vin
theorem Zq3 (s:SpL) (frame v:Int) (B:Nat) (w:World) (hi:s.In w B) (hB:B≤w.heap.size) (hf:Zy frame) (hv:Zy v) :
  Calls Tryz.prog 32 #[.agg s.cells,.int .i64 frame,.int .i64 v] w (Zu (Zh9 (Zph s frame v)) w):=by
 obtain ⟨W0,hW0⟩:∃ W,w.alloc (.cells s.cells 38)=W:=⟨_,rfl⟩
 have K0:Hid (Below w.heap.size w W0):=Lh (by rw [← hW0]; exact (Below.refl _ _).alloc (Nat.le_refl _) _)
 have b0:Blk W0 w.heap.size 38 s.cells:=by rw [← hW0]; exact Blk.new _ _ _
 have hi0:=hi.below (K0.out.mono hB);have HC:=Lh (ZkG s frame v s.A1 s.c1 s.vat s.A2 s.c2 s.vin B W0 hi0 hi0.2.1 hi0.2.2.1 (Nat.le_trans hB K0.out.size) hf hv);have HQ:Hid (Zph s frame v=Zbr s.fr frame v s.vat s.vin):=Lh rfl;generalize Zph s frame v=R at *;generalize Zbr s.fr frame v s.vat s.vin=R2 at *;obtain rfl:=HQ.out;simp only [SpL.cells] at b0 hW0 HC ⊢;unfold Zh9 at HC ⊢;obtain ⟨c0,c1,c2,c3,c4⟩:=b0.c5;simp at c0 c1 c2 c3 c4;have hwl:=b0.lt;clear b0 hi hB hf hv hi0 HQ;go_enter Tryz.func32,Tryz.ntmps32
 go_wp2_with first
  | (go_at_call 55; (with_reducible refine HC.out.mono ?_); rintro e w1 ⟨rfl,hb1⟩)
 go_ret2;exact ⟨rfl,K0.out.trans (hb1.mono K0.out.size)⟩
def Zjx (a:Int) (l:List Int):Int:=l.foldl (fun a b=>max a b) a
theorem Zks (a:Int) (l:List Int) (b:Int):Zjx a (l++[b])=max (Zjx a l) b:=by simp [Zjx]
theorem dTop (a:Int) (A:Option Addr) (c:Nat) (l:List Int) (B:Nat) (w:World) (h:Zbf w B A l) :
  Calls Tryz.prog 78 #[.int .i64 a,.slice A l.length c] w (ZqS (.int .i64 (Zjx a l)) w):=by
 have HI:=Lh h;have hl:=h.1;unfold ZB at hl
 obtain ⟨n,hn⟩:∃ n,l.length=n:=⟨_,rfl⟩
 have HN:=Lh hn;rw [hn] at hl ⊢;clear h hn;go_enter Tryz.func78,Tryz.ntmps78
 go_wp2
 go_loopw [0,9] (fun x i wr=>∃ k:Nat,k≤n∧x = .int .i64 (Zjx a (l.take k))∧i = .int .i64 k∧wr=w) (fun _ i _=>n - (intOf i).toNat)
 case atStart=>exact ⟨0,by omega,by simp [Zjx],rfl,rfl⟩
 case round =>
  obtain ⟨k,hk,rfl,rfl,rfl⟩:=hrel
  by_cases hlt:k < n
  ·have hltI:(k:Int) < n:=by omega
   obtain ⟨b,off,v,rfl,hb,hv,-,cv⟩:=Zej HI.out (k:=k) (by rw [HN.out]; exact hlt);have HS:Hid (Zjx a (l.take (k+1))=max (Zjx a (l.take k)) v):=Lh (by rw [List.take_add_one,hv]; exact Zks _ _ _);generalize Zjx a (l.take k)=t at *;clear hv
   go_wp2
   all_goals
    go_roundw
    case rel=>exact ⟨k+1,by omega,by rw [HS.out] <;> (congr 1; omega),by go_num,by first | trivial | rfl⟩
    case measure=>simp [intOf]; omega
  ·have hltI:¬ (k:Int) < n:=by omega
   obtain rfl:n=k:=by omega
   rw [List.take_of_length_le (by rw [HN.out]; exact Nat.le_refl _)]
   go_wp2
   go_ret;exact ⟨rfl,rfl⟩
end Go.Proofs.YtjndhfcfcedheaaGreatDoor
