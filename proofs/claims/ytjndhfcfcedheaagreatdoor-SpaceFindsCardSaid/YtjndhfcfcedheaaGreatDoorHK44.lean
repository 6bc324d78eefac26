/- Texts that belong together: KZD KZE KZF. -/
import Derived.Test.YtjndhfcfcedheaaGreatDoorHK43
import Derived.Test.YtjndhfcfcedheaaGreatDoorHK32
set_option linter.unusedVariables false
set_option linter.unusedSimpArgs false
set_option maxRecDepth 100000
set_option maxHeartbeats 16000000
namespace Go.Proofs.YtjndhfcfcedheaaGreatDoor
open Go.RowKit
theorem ZoJ (k:KK) (p:KP) (hil:∀ x∈p.l,Zf5 k x) (hig:∀ g∈p.g,∀ x∈g.body,Zf5 k x) (deep left:Nat) (B bc:Nat) (w:World) (hd:deep < 32) (hl:left≤2048) (hl0:left≠0) (hc:Chk w B bc k left) (hi:p.In w B) (hV:Zca bc p.kind≠Value.nilFunc) (hck:ZW k.vars k.chans.length p=true) (h11:p.kind≠11) :
  Calls Tryz.prog 38 #[.pointer (some ⟨bc,0,none⟩),.agg p.cells,.int .i64 ((deep:Int)+1),.bool false] w (Zcw (ZaD k.vars k.chans.length (deep+1) false (Zn k.vars k.chans.length (deep+1) false false (left - 1) p.l) p.g) bc k w):=by
 have HGB:Hid (∀ g∈p.g,∃ q,g.body=[q]):=Lh fun g hg=>by
  obtain ⟨c,hgb⟩:=Z3 hck g hg;exact Zbb hgb
 have S0:=Zbd (ps:=p.cells) hc;have HCK:=Lh (fun w1=>Zde bc p.kind w1);have hone:=hi.one;have HIN:=Lh hi;have HLT:=Lh hc.lt
 have b0:=(hc.blk.call ((Below.refl w.heap.size w).alloc (Nat.le_refl _) (.cells p.cells 31)))
 have y11:((p.kind:Int) == 11)=false:=by simp; omega
 have y1:¬ (left:Int) - 1 < 0:=by omega
 have y2:¬ (32:Int) < (deep:Int)+1:=by omega
 obtain ⟨F,hF,hEN,hFC⟩:=Zdi k ((left:Int) - 1) p B bc hV;rw [hF] at HCK;have HIO:=Lh hone;have HF:=Lh hFC;rw [hck] at HF;clear hV hF hFC hck;have hlen:=hone.1.2.2.2.2.2;have hlen2:=hone.1.2.2.2.2.1;unfold ZB at hlen hlen2
 obtain ⟨m,hm⟩:∃ m,p.l.length=m:=⟨_,rfl⟩
 obtain ⟨mg,hmg⟩:∃ m,p.g.length=m:=⟨_,rfl⟩
 have HM:=Lh hm;have HMG:=Lh hmg;rw [hm] at hlen;rw [hmg] at hlen2;have HIL:=Lh hil;have HIG:=Lh hig;have HN0:=Lh hl0
 have hn1:(left:Int) - 1=((left - 1:Nat):Int):=by omega
 have HN1:=Lh hn1;generalize hW0:w.alloc (.cells p.cells 31)=W0 at *;generalize hW1:W0.setCell ⟨bc,11,none⟩ (.int .i64 ((left:Int) - 1))=W1 at *;have S:Hid (ZcQ w W1 B bc k ((left:Int) - 1) p.cells):=Lh S0
 have z11:W0.cell? ⟨bc,11,none⟩=some (.int .i64 left):=by have:=b0.cell 11; simpa [KK.row,KP.cells] using this
 have f11:=b0.frozen 11
 have bW0:Blk W0 w.heap.size 31 p.cells:=by rw [← hW0]; exact Blk.new _ _ _
 simp only [KP.cells,hm,hmg] at hW0 S HF bW0 ⊢;have x1:=S.out.pb;have x2:=S.out.chk.c11;obtain ⟨e0,e1,e2,e3,e4,e5,e6,e7⟩:=x1.c8;simp at e0 e1 e2 e3 e4 e5 e6 e7;clear x1 S0 b0 hc hi bW0 hone hm hmg hil hig hl0 hn1 h11;go_enter Tryz.func38,Tryz.ntmps38
 go_upto_block 0 with (first
  | (go_at_call 58; (with_reducible refine (HCK.out _).mono ?_); rintro e1 w1 ⟨rfl,hb1⟩
     replace S:=Lh (S.out.call hb1);have x1:=S.out.pb;have x2:=S.out.chk.c11;obtain ⟨e0,e1,e2,e3,e4,e5,e6,e7⟩:=x1.c8;simp at e0 e1 e2 e3 e4 e5 e6 e7
     clear x1 hb1)
  | ((with_reducible refine (HF.out _ S.out.chk (S.out.low1 HIO.out)).mono ?_); rintro e1 w1 ⟨rfl,hb1⟩
     replace S:=Lh (S.out.call hb1);have x1:=S.out.pb;have x2:=S.out.chk.c11;obtain ⟨e0,e1,e2,e3,e4,e5,e6,e7⟩:=x1.c8;simp at e0 e1 e2 e3 e4 e5 e6 e7
     clear x1 hb1))
 clear HCK HF HIO hEN;have S1:Hid (ZcQ w w1 B bc k ((left - 1:Nat):Int) #[.int .u8 p.kind,.int .i64 p.c,.int .i64 p.v,.int .u8 p.item,.slice p.At p.tos.length p.ct,.slice p.Ae p.e.length p.ce,.slice p.Ag mg p.cg,.slice p.Al m p.cl]):=Lh (by rw [← HN1.out]; exact S.out);clear S
 go_cut [55] (fun s55 wx=>∃ r:Nat,Hid (ZcQ w wx B bc k (r:Int) #[.int .u8 p.kind,.int .i64 p.c,.int .i64 p.v,.int .u8 p.item,.slice p.At p.tos.length p.ct,.slice p.Ae p.e.length p.ce,.slice p.Ag mg p.cg,.slice p.Al m p.cl])∧Hid (Zn k.vars k.chans.length (deep+1) false false (left - 1) p.l=some r)∧Hid (r≤2048))
 case first =>
  go_wp2_with fail
  go_loopw [55] (fun i wr=>∃ (j r:Nat),j≤m∧i = .int .i64 j∧Hid (ZcQ w wr B bc k (r:Int) #[.int .u8 p.kind,.int .i64 p.c,.int .i64 p.v,.int .u8 p.item,.slice p.At p.tos.length p.ct,.slice p.Ae p.e.length p.ce,.slice p.Ag mg p.cg,.slice p.Al m p.cl])∧Hid (Zn k.vars k.chans.length (deep+1) false false (left - 1) (p.l.take j)=some r)∧Hid (r≤2048)) (fun i _=>m - (intOf i).toNat)
  case atStart=>exact ⟨0,left - 1,Nat.zero_le _,rfl,S1,Lh (by rw [List.take_zero,Zn]),Lh (by omega)⟩
  case round =>
   clear S1 e0 e1 e2 e3 e4 e5 e6 e7 x2;obtain ⟨j,r,hj,rfl,S,HST,HRR⟩:=hrel;have x1:=S.out.pb;have hpw:=x1.lt;obtain ⟨e0,e1,e2,e3,e4,e5,e6,e7⟩:=x1.c8;simp at e0 e1 e2 e3 e4 e5 e6 e7;clear x1
   by_cases hlt:j < m
   ·have hltI:(j:Int) < m:=by omega
    have hin:=S.out.low HIN.out;have hBw:=S.out.chk.leB;have hst:=HST.out;obtain ⟨b,off,x,hA,hb,hx,hmx,c0,c1,c2,c3,c4,c5,c6,c7⟩:=Za4 hin.one.2.2.2.2 rfl (k:=j) (by rw [HM.out]; exact hlt);have hbw:b < wr.heap.size:=Nat.lt_of_lt_of_le hb hBw;rw [hA] at e7;have S2:=Lh (S.out.call ((Below.refl wr.heap.size wr).alloc (Nat.le_refl _) (.cells x.cells 31)));have bx:=Blk.new wr 31 x.cells;simp only [KP.cells] at S2 bx;have HB:=Lh bx;clear bx
    go_upto_region 8 with fail
    generalize wr.alloc _=w2 at *;have x1:=S2.out.pb;have bx:=HB.out;clear c0 c1 c2 c3 c4 c5 c6 c7 e0 e1 e2 e3 e4 e5 e6 e7 HB S;obtain ⟨e0,e1,e2,e3,e4,e5,e6,e7⟩:=x1.c8;simp at e0 e1 e2 e3 e4 e5 e6 e7;obtain ⟨d0,d1,d2,d3,d4,d5,d6,d7⟩:=bx.c8;simp at d0 d1 d2 d3 d4 d5 d6 d7;clear x1 bx
    have HC:Hid (∀ w1:World,ZcQ w w1 B bc k (r:Int) #[.int .u8 p.kind,.int .i64 p.c,.int .i64 p.v,.int .u8 p.item,.slice p.At p.tos.length p.ct,.slice p.Ae p.e.length p.ce,.slice p.Ag mg p.cg,.slice p.Al m p.cl]→Calls Tryz.prog 38 #[.pointer (some ⟨bc,0,none⟩),.agg x.cells,.int .i64 ((deep:Int)+1+1),.bool false] w1 (Zcw (Zx k.vars k.chans.length (deep+1) false r x) bc k w1)):=Lh fun w1 h=>by
     have h2:=HIL.out x hmx (deep+1) r false B bc w1 (by omega) HRR.out h.chk ((h.low HIN.out).part hmx)
     have h3:((deep+1:Nat):Int)=(deep:Int)+1:=by omega
     rw [h3] at h2;exact h2
    have hsn:=ZaI (vs:=k.vars) (nc:=k.chans.length) (deep:=deep+1) (high:=false) (first:=false) (left:=left - 1) hx hst;have hfl:=ZcF (vs:=k.vars) (nc:=k.chans.length) (deep:=deep+1) (high:=false) (first:=false) (left:=left - 1) hx hst;have hb2:(false || (false && decide (j=0)))=false:=rfl;rw [hb2] at hsn hfl;have HSN:Hid (Zn k.vars k.chans.length (deep+1) false false (left - 1) (p.l.take (j+1))=Zx k.vars k.chans.length (deep+1) false r x):=Lh hsn;have HFL:Hid (Zx k.vars k.chans.length (deep+1) false r x=none→Zn k.vars k.chans.length (deep+1) false false (left - 1) p.l=none):=Lh hfl;have HRL:Hid (∀ r2,Zx k.vars k.chans.length (deep+1) false r x=some r2→r2≤r):=Lh fun r2 h=>ZaB x _ _ _ _ h;generalize Zx k.vars k.chans.length (deep+1) false r x=so2 at *;simp only [KP.cells] at HC;clear hx hmx hA hst hsn hfl hin
    go_wp2_with (first
     | (go_at_call 38; (with_reducible refine (HC.out _ S2.out).mono ?_); rintro e1 w3 ⟨hu,b3,z3,rfl,hb3,hor⟩
        have S3:=Lh (S2.out.step hu hb3);clear hu hb3 S2
        rcases hor with ⟨hn,rfl⟩ | ⟨r2,hn,rfl,rfl⟩))
    ·go_ret;exact ⟨S3.out.upd,false,_,rfl,S3.out.chk.blk,.inl ⟨by rw [HFL.out hn]; rfl,rfl⟩⟩
    ·go_roundw
     case rel=>exact ⟨j+1,r2,by omega,by go_num,S3,Lh (HSN.out.trans hn),Lh (Nat.le_trans (HRL.out r2 hn) HRR.out)⟩
     case measure=>simp [intOf]; omega
   ·have hltI:¬ (j:Int) < m:=by omega
    obtain rfl:m=j:=by omega
    have htk:p.l.take m=p.l:=List.take_of_length_le (by rw [HM.out]; omega);have hst:=HST.out;rw [htk] at hst;have HX1:=Lh hst;clear htk hst
    go_wp2_with fail
    go_meet;exact ⟨r,S,HX1,HRR⟩
 case rest =>
  obtain ⟨r,S,HX1,HRR⟩:=hcut;have x1:=S.out.pb;obtain ⟨e0,e1,e2,e3,e4,e5,e6,e7⟩:=x1.c8;simp at e0 e1 e2 e3 e4 e5 e6 e7;clear x1 HIL S1 HN1 HN0 HLT
  go_wp2_with fail
  go_loopw [80] (fun i wr=>∃ (j2 r2:Nat),j2≤mg∧i = .int .i64 j2∧Hid (ZcQ w wr B bc k (r2:Int) #[.int .u8 p.kind,.int .i64 p.c,.int .i64 p.v,.int .u8 p.item,.slice p.At p.tos.length p.ct,.slice p.Ae p.e.length p.ce,.slice p.Ag mg p.cg,.slice p.Al m p.cl])∧Hid (ZaD k.vars k.chans.length (deep+1) false (some r) (p.g.take j2)=some r2)∧Hid (r2≤2048)) (fun i _=>mg - (intOf i).toNat)
  case atStart=>exact ⟨0,r,Nat.zero_le _,rfl,S,Lh Zbx,HRR⟩
  case round =>
   clear S e0 e1 e2 e3 e4 e5 e6 e7;obtain ⟨j2,r2,hj2,rfl,S,HST,HR2⟩:=hrel;have x1:=S.out.pb;have hpw:=x1.lt;obtain ⟨e0,e1,e2,e3,e4,e5,e6,e7⟩:=x1.c8;simp at e0 e1 e2 e3 e4 e5 e6 e7;clear x1
   by_cases hlt:j2 < mg
   ·have hltI:(j2:Int) < mg:=by omega
    have hin:=S.out.low HIN.out;have hBw:=S.out.chk.leB;have hst:=HST.out;obtain ⟨b,off,g,hA,hb,hx,hmx,hG⟩:=Zb7 hin.one.2.2.2.1.1 rfl (k:=j2) (by rw [HMG.out]; exact hlt);have hbw:b < wr.heap.size:=Nat.lt_of_lt_of_le hb hBw;have HG:=Lh hG;clear hG;rw [hA] at e6;obtain ⟨qq,hq⟩:=HGB.out g hmx;have HSN:=Lh ((Zbh hx hst).trans (Zcq hq));have HMX:=Lh hmx;have HQ:=Lh hq;have S2:=Lh (S.out.call ((Below.refl wr.heap.size wr).alloc (Nat.le_refl _) (.cells g.flat 109)));have bx:=Blk.new wr 109 g.flat;have HB:=Lh bx;clear bx hx hmx hst hin hq
    go_upto_region 14 with (first
     | (refine Zaf rfl _ rfl (b:=b) (o:=off+j2 * 18) rfl HG.out ?_)
     | (refine Z9 rfl _ _ rfl (w:=wr) (g:=g) rfl rfl ?_))
    generalize wr.alloc _=w2 at *;have bx:=HB.out;clear e0 e1 e2 e3 e4 e5 e6 e7 HB S HG;have d17:=bx.cell 17
    simp [KG.flat] at d17
    clear bx;obtain ⟨b2,off2,x,hA2,hb2,hx2,hmx2,c0,c1,c2,c3,c4,c5,c6,c7⟩:=Za4 ((S2.out.low HIN.out).one.2.2.2.1.2 g HMX.out).2.2.2.2 rfl (k:=0) (by rw [HQ.out]; simp);have hq:=HQ.out
    have hxq:x=qq:=by rw [hq] at hx2; simpa using hx2.symm
    subst hxq;have hbw2:b2 < w2.heap.size:=Nat.lt_of_lt_of_le hb2 S2.out.chk.leB;rw [hq] at d17;rw [hA2] at d17;rw [Nat.zero_mul,Nat.add_zero] at c0 c1 c2 c3 c4 c5 c6 c7;simp only [List.length_singleton] at d17
    have HC:Hid (∀ w1:World,ZcQ w w1 B bc k (r2:Int) #[.int .u8 p.kind,.int .i64 p.c,.int .i64 p.v,.int .u8 p.item,.slice p.At p.tos.length p.ct,.slice p.Ae p.e.length p.ce,.slice p.Ag mg p.cg,.slice p.Al m p.cl]→Calls Tryz.prog 38 #[.pointer (some ⟨bc,0,none⟩),.agg x.cells,.int .i64 ((deep:Int)+1+1),.bool false] w1 (Zcw (Zx k.vars k.chans.length (deep+1) false r2 x) bc k w1)):=Lh fun w1 h=>by
     have h2:=HIG.out g HMX.out x hmx2 (deep+1) r2 false B bc w1 (by omega) HR2.out h.chk ((h.low HIN.out).guard HMX.out hmx2)
     have h3:((deep+1:Nat):Int)=(deep:Int)+1:=by omega
     rw [h3] at h2;exact h2
    have HRL:Hid (∀ r3,Zx k.vars k.chans.length (deep+1) false r2 x=some r3→r3≤r2):=Lh fun r3 h=>ZaB x _ _ _ _ h;generalize Zx k.vars k.chans.length (deep+1) false r2 x=so2 at *;simp only [KP.cells] at HC;have HA:=Lh hA;clear hq hx2 hmx2 hA hA2 HQ HMX
    go_wp2_with (first
     | (go_at_call 38; (with_reducible refine (HC.out _ S2.out).mono ?_); rintro e1 w3 ⟨hu,b3,z3,rfl,hb3,hor⟩
        have S3:=Lh (S2.out.step hu hb3);clear hu hb3 S2
        rcases hor with ⟨hn,rfl⟩ | ⟨r3,hn,rfl,rfl⟩))
    ·go_ret;exact ⟨S3.out.upd,false,_,rfl,S3.out.chk.blk,.inl ⟨by rw [HX1.out]; exact Zag (HSN.out.trans hn),rfl⟩⟩
    ·simp only [← HA.out]
     go_roundw
     case rel=>exact ⟨j2+1,r3,by omega,by go_num,S3,Lh (HSN.out.trans hn),Lh (Nat.le_trans (HRL.out r3 hn) HR2.out)⟩
     case measure=>simp [intOf]; omega
   ·have hltI:¬ (j2:Int) < mg:=by omega
    obtain rfl:mg=j2:=by omega
    have htk:p.g.take mg=p.g:=List.take_of_length_le (by rw [HMG.out]; omega);have hst:=HST.out;rw [htk] at hst;have HXX:=Lh hst;clear htk hst
    go_wp2
    go_ret;exact ⟨S.out.upd,true,_,rfl,S.out.chk.blk,.inr ⟨r2,by rw [HX1.out]; exact HXX.out,rfl,rfl⟩⟩
theorem ZoI (k:KK) (p:KP) (hil:∀ x∈p.l,Zf5 k x) (hig:∀ g∈p.g,∀ x∈g.body,Zf5 k x) (deep left:Nat) (B bc:Nat) (w:World) (hd:deep < 32) (hl:left≤2048) (hl0:left≠0) (hc:Chk w B bc k left) (hi:p.In w B) (hV:Zca bc p.kind≠Value.nilFunc) (hck:ZW k.vars k.chans.length p=true) (h11:p.kind=11) :
  Calls Tryz.prog 38 #[.pointer (some ⟨bc,0,none⟩),.agg p.cells,.int .i64 ((deep:Int)+1),.bool false] w (Zcw (ZaD k.vars k.chans.length (deep+1) false (Zn k.vars k.chans.length (deep+1) false true (left - 1) p.l) p.g) bc k w):=by
 have HGB:Hid (∀ g∈p.g,∃ q,g.body=[q]):=Lh fun g hg=>by
  obtain ⟨c,hgb⟩:=Z3 hck g hg;exact Zbb hgb
 have S0:=Zbd (ps:=p.cells) hc;have HCK:=Lh (fun w1=>Zde bc p.kind w1);have hone:=hi.one;have HIN:=Lh hi;have HLT:=Lh hc.lt
 have b0:=(hc.blk.call ((Below.refl w.heap.size w).alloc (Nat.le_refl _) (.cells p.cells 31)))
 have y11:((p.kind:Int) == 11)=true:=by simp; omega
 have y1:¬ (left:Int) - 1 < 0:=by omega
 have y2:¬ (32:Int) < (deep:Int)+1:=by omega
 obtain ⟨F,hF,hEN,hFC⟩:=Zdi k ((left:Int) - 1) p B bc hV;rw [hF] at HCK;have HIO:=Lh hone;have HF:=Lh hFC;rw [hck] at HF;clear hV hF hFC hck;have hlen:=hone.1.2.2.2.2.2;have hlen2:=hone.1.2.2.2.2.1;unfold ZB at hlen hlen2
 obtain ⟨m,hm⟩:∃ m,p.l.length=m:=⟨_,rfl⟩
 obtain ⟨mg,hmg⟩:∃ m,p.g.length=m:=⟨_,rfl⟩
 have HM:=Lh hm;have HMG:=Lh hmg;rw [hm] at hlen;rw [hmg] at hlen2;have HIL:=Lh hil;have HIG:=Lh hig;have HN0:=Lh hl0
 have hn1:(left:Int) - 1=((left - 1:Nat):Int):=by omega
 have HN1:=Lh hn1;generalize hW0:w.alloc (.cells p.cells 31)=W0 at *;generalize hW1:W0.setCell ⟨bc,11,none⟩ (.int .i64 ((left:Int) - 1))=W1 at *;have S:Hid (ZcQ w W1 B bc k ((left:Int) - 1) p.cells):=Lh S0
 have z11:W0.cell? ⟨bc,11,none⟩=some (.int .i64 left):=by have:=b0.cell 11; simpa [KK.row,KP.cells] using this
 have f11:=b0.frozen 11
 have bW0:Blk W0 w.heap.size 31 p.cells:=by rw [← hW0]; exact Blk.new _ _ _
 simp only [KP.cells,hm,hmg] at hW0 S HF bW0 ⊢;have x1:=S.out.pb;have x2:=S.out.chk.c11;obtain ⟨e0,e1,e2,e3,e4,e5,e6,e7⟩:=x1.c8;simp at e0 e1 e2 e3 e4 e5 e6 e7;clear x1 S0 b0 hc hi bW0 hone hm hmg hil hig hl0 hn1 h11;go_enter Tryz.func38,Tryz.ntmps38
 go_upto_block 0 with (first
  | (go_at_call 58; (with_reducible refine (HCK.out _).mono ?_); rintro e1 w1 ⟨rfl,hb1⟩
     replace S:=Lh (S.out.call hb1);have x1:=S.out.pb;have x2:=S.out.chk.c11;obtain ⟨e0,e1,e2,e3,e4,e5,e6,e7⟩:=x1.c8;simp at e0 e1 e2 e3 e4 e5 e6 e7
     clear x1 hb1)
  | ((with_reducible refine (HF.out _ S.out.chk (S.out.low1 HIO.out)).mono ?_); rintro e1 w1 ⟨rfl,hb1⟩
     replace S:=Lh (S.out.call hb1);have x1:=S.out.pb;have x2:=S.out.chk.c11;obtain ⟨e0,e1,e2,e3,e4,e5,e6,e7⟩:=x1.c8;simp at e0 e1 e2 e3 e4 e5 e6 e7
     clear x1 hb1))
 clear HCK HF HIO hEN;have S1:Hid (ZcQ w w1 B bc k ((left - 1:Nat):Int) #[.int .u8 p.kind,.int .i64 p.c,.int .i64 p.v,.int .u8 p.item,.slice p.At p.tos.length p.ct,.slice p.Ae p.e.length p.ce,.slice p.Ag mg p.cg,.slice p.Al m p.cl]):=Lh (by rw [← HN1.out]; exact S.out);clear S
 go_cut [55] (fun s55 wx=>∃ r:Nat,Hid (ZcQ w wx B bc k (r:Int) #[.int .u8 p.kind,.int .i64 p.c,.int .i64 p.v,.int .u8 p.item,.slice p.At p.tos.length p.ct,.slice p.Ae p.e.length p.ce,.slice p.Ag mg p.cg,.slice p.Al m p.cl])∧Hid (Zn k.vars k.chans.length (deep+1) false true (left - 1) p.l=some r)∧Hid (r≤2048))
 case first =>
  go_wp2_with fail
  go_loopw [55] (fun i wr=>∃ (j r:Nat),j≤m∧i = .int .i64 j∧Hid (ZcQ w wr B bc k (r:Int) #[.int .u8 p.kind,.int .i64 p.c,.int .i64 p.v,.int .u8 p.item,.slice p.At p.tos.length p.ct,.slice p.Ae p.e.length p.ce,.slice p.Ag mg p.cg,.slice p.Al m p.cl])∧Hid (Zn k.vars k.chans.length (deep+1) false true (left - 1) (p.l.take j)=some r)∧Hid (r≤2048)) (fun i _=>m - (intOf i).toNat)
  case atStart=>exact ⟨0,left - 1,Nat.zero_le _,rfl,S1,Lh (by rw [List.take_zero,Zn]),Lh (by omega)⟩
  case round =>
   clear S1 e0 e1 e2 e3 e4 e5 e6 e7 x2;obtain ⟨j,r,hj,rfl,S,HST,HRR⟩:=hrel;have x1:=S.out.pb;have hpw:=x1.lt;obtain ⟨e0,e1,e2,e3,e4,e5,e6,e7⟩:=x1.c8;simp at e0 e1 e2 e3 e4 e5 e6 e7;clear x1
   by_cases hlt:j < m
   ·have hltI:(j:Int) < m:=by omega
    have hin:=S.out.low HIN.out;have hBw:=S.out.chk.leB;have hst:=HST.out;obtain ⟨b,off,x,hA,hb,hx,hmx,c0,c1,c2,c3,c4,c5,c6,c7⟩:=Za4 hin.one.2.2.2.2 rfl (k:=j) (by rw [HM.out]; exact hlt);have hbw:b < wr.heap.size:=Nat.lt_of_lt_of_le hb hBw;rw [hA] at e7;have S2:=Lh (S.out.call ((Below.refl wr.heap.size wr).alloc (Nat.le_refl _) (.cells x.cells 31)));have bx:=Blk.new wr 31 x.cells;simp only [KP.cells] at S2 bx;have HB:=Lh bx;clear bx
    go_upto_region 8 with fail
    generalize wr.alloc _=w2 at *;have x1:=S2.out.pb;have bx:=HB.out;clear c0 c1 c2 c3 c4 c5 c6 c7 e0 e1 e2 e3 e4 e5 e6 e7 HB S;obtain ⟨e0,e1,e2,e3,e4,e5,e6,e7⟩:=x1.c8;simp at e0 e1 e2 e3 e4 e5 e6 e7;obtain ⟨d0,d1,d2,d3,d4,d5,d6,d7⟩:=bx.c8;simp at d0 d1 d2 d3 d4 d5 d6 d7;clear x1 bx
    by_cases hj0:j=0
    ·have yj:((j:Int) == 0)=true:=by simp; omega
     have HC:Hid (∀ w1:World,ZcQ w w1 B bc k (r:Int) #[.int .u8 p.kind,.int .i64 p.c,.int .i64 p.v,.int .u8 p.item,.slice p.At p.tos.length p.ct,.slice p.Ae p.e.length p.ce,.slice p.Ag mg p.cg,.slice p.Al m p.cl]→Calls Tryz.prog 38 #[.pointer (some ⟨bc,0,none⟩),.agg x.cells,.int .i64 ((deep:Int)+1+1),.bool true] w1 (Zcw (Zx k.vars k.chans.length (deep+1) true r x) bc k w1)):=Lh fun w1 h=>by
      have h2:=HIL.out x hmx (deep+1) r true B bc w1 (by omega) HRR.out h.chk ((h.low HIN.out).part hmx)
      have h3:((deep+1:Nat):Int)=(deep:Int)+1:=by omega
      rw [h3] at h2;exact h2
     have hsn:=ZaI (vs:=k.vars) (nc:=k.chans.length) (deep:=deep+1) (high:=false) (first:=true) (left:=left - 1) hx hst;have hfl:=ZcF (vs:=k.vars) (nc:=k.chans.length) (deep:=deep+1) (high:=false) (first:=true) (left:=left - 1) hx hst
     have hb2:(false || (true && decide (j=0)))=true:=by rw [decide_eq_true hj0]; rfl
     rw [hb2] at hsn hfl;clear hj0;have HSN:Hid (Zn k.vars k.chans.length (deep+1) false true (left - 1) (p.l.take (j+1))=Zx k.vars k.chans.length (deep+1) true r x):=Lh hsn;have HFL:Hid (Zx k.vars k.chans.length (deep+1) true r x=none→Zn k.vars k.chans.length (deep+1) false true (left - 1) p.l=none):=Lh hfl;have HRL:Hid (∀ r2,Zx k.vars k.chans.length (deep+1) true r x=some r2→r2≤r):=Lh fun r2 h=>ZaB x _ _ _ _ h;generalize Zx k.vars k.chans.length (deep+1) true r x=so2 at *;simp only [KP.cells] at HC;clear hx hmx hA hst hsn hfl hin
     go_wp2_with (first
      | (go_at_call 38; (with_reducible refine (HC.out _ S2.out).mono ?_); rintro e1 w3 ⟨hu,b3,z3,rfl,hb3,hor⟩
         have S3:=Lh (S2.out.step hu hb3);clear hu hb3 S2
         rcases hor with ⟨hn,rfl⟩ | ⟨r2,hn,rfl,rfl⟩))
     ·go_ret;exact ⟨S3.out.upd,false,_,rfl,S3.out.chk.blk,.inl ⟨by rw [HFL.out hn]; rfl,rfl⟩⟩
     ·go_roundw
      case rel=>exact ⟨j+1,r2,by omega,by go_num,S3,Lh (HSN.out.trans hn),Lh (Nat.le_trans (HRL.out r2 hn) HRR.out)⟩
      case measure=>simp [intOf]; omega
    ·have yj:((j:Int) == 0)=false:=by simp; omega
     have HC:Hid (∀ w1:World,ZcQ w w1 B bc k (r:Int) #[.int .u8 p.kind,.int .i64 p.c,.int .i64 p.v,.int .u8 p.item,.slice p.At p.tos.length p.ct,.slice p.Ae p.e.length p.ce,.slice p.Ag mg p.cg,.slice p.Al m p.cl]→Calls Tryz.prog 38 #[.pointer (some ⟨bc,0,none⟩),.agg x.cells,.int .i64 ((deep:Int)+1+1),.bool false] w1 (Zcw (Zx k.vars k.chans.length (deep+1) false r x) bc k w1)):=Lh fun w1 h=>by
      have h2:=HIL.out x hmx (deep+1) r false B bc w1 (by omega) HRR.out h.chk ((h.low HIN.out).part hmx)
      have h3:((deep+1:Nat):Int)=(deep:Int)+1:=by omega
      rw [h3] at h2;exact h2
     have hsn:=ZaI (vs:=k.vars) (nc:=k.chans.length) (deep:=deep+1) (high:=false) (first:=true) (left:=left - 1) hx hst;have hfl:=ZcF (vs:=k.vars) (nc:=k.chans.length) (deep:=deep+1) (high:=false) (first:=true) (left:=left - 1) hx hst
     have hb2:(false || (true && decide (j=0)))=false:=by rw [decide_eq_false hj0]; rfl
     rw [hb2] at hsn hfl;clear hj0;have HSN:Hid (Zn k.vars k.chans.length (deep+1) false true (left - 1) (p.l.take (j+1))=Zx k.vars k.chans.length (deep+1) false r x):=Lh hsn;have HFL:Hid (Zx k.vars k.chans.length (deep+1) false r x=none→Zn k.vars k.chans.length (deep+1) false true (left - 1) p.l=none):=Lh hfl;have HRL:Hid (∀ r2,Zx k.vars k.chans.length (deep+1) false r x=some r2→r2≤r):=Lh fun r2 h=>ZaB x _ _ _ _ h;generalize Zx k.vars k.chans.length (deep+1) false r x=so2 at *;simp only [KP.cells] at HC;clear hx hmx hA hst hsn hfl hin
     go_wp2_with (first
      | (go_at_call 38; (with_reducible refine (HC.out _ S2.out).mono ?_); rintro e1 w3 ⟨hu,b3,z3,rfl,hb3,hor⟩
         have S3:=Lh (S2.out.step hu hb3);clear hu hb3 S2
         rcases hor with ⟨hn,rfl⟩ | ⟨r2,hn,rfl,rfl⟩))
     ·go_ret;exact ⟨S3.out.upd,false,_,rfl,S3.out.chk.blk,.inl ⟨by rw [HFL.out hn]; rfl,rfl⟩⟩
     ·go_roundw
      case rel=>exact ⟨j+1,r2,by omega,by go_num,S3,Lh (HSN.out.trans hn),Lh (Nat.le_trans (HRL.out r2 hn) HRR.out)⟩
      case measure=>simp [intOf]; omega
   ·have hltI:¬ (j:Int) < m:=by omega
    obtain rfl:m=j:=by omega
    have htk:p.l.take m=p.l:=List.take_of_length_le (by rw [HM.out]; omega);have hst:=HST.out;rw [htk] at hst;have HX1:=Lh hst;clear htk hst
    go_wp2_with fail
    go_meet;exact ⟨r,S,HX1,HRR⟩
 case rest =>
  obtain ⟨r,S,HX1,HRR⟩:=hcut;have x1:=S.out.pb;obtain ⟨e0,e1,e2,e3,e4,e5,e6,e7⟩:=x1.c8;simp at e0 e1 e2 e3 e4 e5 e6 e7;clear x1 HIL S1 HN1 HN0 HLT
  go_wp2_with fail
  go_loopw [80] (fun i wr=>∃ (j2 r2:Nat),j2≤mg∧i = .int .i64 j2∧Hid (ZcQ w wr B bc k (r2:Int) #[.int .u8 p.kind,.int .i64 p.c,.int .i64 p.v,.int .u8 p.item,.slice p.At p.tos.length p.ct,.slice p.Ae p.e.length p.ce,.slice p.Ag mg p.cg,.slice p.Al m p.cl])∧Hid (ZaD k.vars k.chans.length (deep+1) false (some r) (p.g.take j2)=some r2)∧Hid (r2≤2048)) (fun i _=>mg - (intOf i).toNat)
  case atStart=>exact ⟨0,r,Nat.zero_le _,rfl,S,Lh Zbx,HRR⟩
  case round =>
   clear S e0 e1 e2 e3 e4 e5 e6 e7;obtain ⟨j2,r2,hj2,rfl,S,HST,HR2⟩:=hrel;have x1:=S.out.pb;have hpw:=x1.lt;obtain ⟨e0,e1,e2,e3,e4,e5,e6,e7⟩:=x1.c8;simp at e0 e1 e2 e3 e4 e5 e6 e7;clear x1
   by_cases hlt:j2 < mg
   ·have hltI:(j2:Int) < mg:=by omega
    have hin:=S.out.low HIN.out;have hBw:=S.out.chk.leB;have hst:=HST.out;obtain ⟨b,off,g,hA,hb,hx,hmx,hG⟩:=Zb7 hin.one.2.2.2.1.1 rfl (k:=j2) (by rw [HMG.out]; exact hlt);have hbw:b < wr.heap.size:=Nat.lt_of_lt_of_le hb hBw;have HG:=Lh hG;clear hG;rw [hA] at e6;obtain ⟨qq,hq⟩:=HGB.out g hmx;have HSN:=Lh ((Zbh hx hst).trans (Zcq hq));have HMX:=Lh hmx;have HQ:=Lh hq;have S2:=Lh (S.out.call ((Below.refl wr.heap.size wr).alloc (Nat.le_refl _) (.cells g.flat 109)));have bx:=Blk.new wr 109 g.flat;have HB:=Lh bx;clear bx hx hmx hst hin hq
    go_upto_region 14 with (first
     | (refine Zaf rfl _ rfl (b:=b) (o:=off+j2 * 18) rfl HG.out ?_)
     | (refine Z9 rfl _ _ rfl (w:=wr) (g:=g) rfl rfl ?_))
    generalize wr.alloc _=w2 at *;have bx:=HB.out;clear e0 e1 e2 e3 e4 e5 e6 e7 HB S HG;have d17:=bx.cell 17
    simp [KG.flat] at d17
    clear bx;obtain ⟨b2,off2,x,hA2,hb2,hx2,hmx2,c0,c1,c2,c3,c4,c5,c6,c7⟩:=Za4 ((S2.out.low HIN.out).one.2.2.2.1.2 g HMX.out).2.2.2.2 rfl (k:=0) (by rw [HQ.out]; simp);have hq:=HQ.out
    have hxq:x=qq:=by rw [hq] at hx2; simpa using hx2.symm
    subst hxq;have hbw2:b2 < w2.heap.size:=Nat.lt_of_lt_of_le hb2 S2.out.chk.leB;rw [hq] at d17;rw [hA2] at d17;rw [Nat.zero_mul,Nat.add_zero] at c0 c1 c2 c3 c4 c5 c6 c7;simp only [List.length_singleton] at d17
    have HC:Hid (∀ w1:World,ZcQ w w1 B bc k (r2:Int) #[.int .u8 p.kind,.int .i64 p.c,.int .i64 p.v,.int .u8 p.item,.slice p.At p.tos.length p.ct,.slice p.Ae p.e.length p.ce,.slice p.Ag mg p.cg,.slice p.Al m p.cl]→Calls Tryz.prog 38 #[.pointer (some ⟨bc,0,none⟩),.agg x.cells,.int .i64 ((deep:Int)+1+1),.bool false] w1 (Zcw (Zx k.vars k.chans.length (deep+1) false r2 x) bc k w1)):=Lh fun w1 h=>by
     have h2:=HIG.out g HMX.out x hmx2 (deep+1) r2 false B bc w1 (by omega) HR2.out h.chk ((h.low HIN.out).guard HMX.out hmx2)
     have h3:((deep+1:Nat):Int)=(deep:Int)+1:=by omega
     rw [h3] at h2;exact h2
    have HRL:Hid (∀ r3,Zx k.vars k.chans.length (deep+1) false r2 x=some r3→r3≤r2):=Lh fun r3 h=>ZaB x _ _ _ _ h;generalize Zx k.vars k.chans.length (deep+1) false r2 x=so2 at *;simp only [KP.cells] at HC;have HA:=Lh hA;clear hq hx2 hmx2 hA hA2 HQ HMX
    go_wp2_with (first
     | (go_at_call 38; (with_reducible refine (HC.out _ S2.out).mono ?_); rintro e1 w3 ⟨hu,b3,z3,rfl,hb3,hor⟩
        have S3:=Lh (S2.out.step hu hb3);clear hu hb3 S2
        rcases hor with ⟨hn,rfl⟩ | ⟨r3,hn,rfl,rfl⟩))
    ·go_ret;exact ⟨S3.out.upd,false,_,rfl,S3.out.chk.blk,.inl ⟨by rw [HX1.out]; exact Zag (HSN.out.trans hn),rfl⟩⟩
    ·simp only [← HA.out]
     go_roundw
     case rel=>exact ⟨j2+1,r3,by omega,by go_num,S3,Lh (HSN.out.trans hn),Lh (Nat.le_trans (HRL.out r3 hn) HR2.out)⟩
     case measure=>simp [intOf]; omega
   ·have hltI:¬ (j2:Int) < mg:=by omega
    obtain rfl:mg=j2:=by omega
    have htk:p.g.take mg=p.g:=List.take_of_length_le (by rw [HMG.out]; omega);have hst:=HST.out;rw [htk] at hst;have HXX:=Lh hst;clear htk hst
    go_wp2
    go_ret;exact ⟨S.out.upd,true,_,rfl,S.out.chk.blk,.inr ⟨r2,by rw [HX1.out]; exact HXX.out,rfl,rfl⟩⟩
theorem Zcj {R R':Option Nat} {bc:Nat} {k:KK} {w:World} {f:Nat} {args:Array Value} (h:R=R') (hc:Calls Tryz.prog f args w (Zcw R bc k w)):Calls Tryz.prog f args w (Zcw R' bc k w):=h ▸ hc
theorem kProc (k:KK):∀ p,Zf5 k p:=by
 intro p
 induction p using KP.ind with
 | h p ih1 ih2 =>
   intro deep left high B bc w hd hl hc hi;have he:=Zds (vs:=k.vars) (nc:=k.chans.length) deep high left p
   by_cases h0:left=0
   ·exact Zcj (by rw [he]; simp [h0]) (ZoK k p deep left high B bc w hd hl hc hi h0)
   by_cases h32:deep=32
   ·exact Zcj (by rw [he]; simp [h32]) (Zng k p deep left high B bc w hd hl hc hi h0 h32)
   have hd2:deep < 32:=by omega
   by_cases hV:Zca bc p.kind=Value.nilFunc
   ·exact Zcj (by rw [he,Zj8 hV]; simp) (Zls k p deep left high B bc w hd hl hc hi h0 hd2 hV)
   cases hck:ZW k.vars k.chans.length p with
   | false=>exact Zcj (by rw [he,hck]; simp) (Znf k p deep left high B bc w hd hl hc hi h0 hd2 hV hck)
   | true =>
     have hgo:∀ b1 b2:Bool,high=b1→(p.kind == 11)=b2→(b1 && b2)=false→ZaD k.vars k.chans.length (deep+1) b1 (Zn k.vars k.chans.length (deep+1) b1 b2 (left - 1) p.l) p.g=Zx k.vars k.chans.length deep high left p:=by
      intro b1 b2 e1 e2 e3;rw [he,hck,e1,e2,e3,decide_eq_false (by omega),decide_eq_false h0];simp only [ZaD]
      rfl
     cases high with
     | true =>
       by_cases h11:p.kind=11
       ·exact Zcj (by rw [he]; simp [h11]) (ZjW k p deep left true B bc w hd hl hc hi h0 hd2 hV hck rfl h11)
       ·exact Zcj (hgo true false rfl (by simp [h11]) rfl) (ZoH k p ih2 ih1 deep left B bc w hd2 hl h0 hc hi hV hck h11)
     | false =>
       by_cases h11:p.kind=11
       ·exact Zcj (hgo false true rfl (by simp [h11]) rfl) (ZoI k p ih2 ih1 deep left B bc w hd2 hl h0 hc hi hV hck h11)
       ·exact Zcj (hgo false false rfl (by simp [h11]) rfl) (ZoJ k p ih2 ih1 deep left B bc w hd2 hl h0 hc hi hV hck h11)
def RetIx (l:List Int) (n:Nat) (x:Int) (w:World) (e:Ending) (w':World):Prop :=
 w'=w∧∃ z:Int,e = .returned (.int .i64 z)∧(0≤z∧(∃ s,s < n∧l[s]? = some x)∨z < 0∧∀ s y,s < n→l[s]? = some y→y≠x)
theorem ZoN (l:List Int) (n:Nat) (b off c:Nat) (x:Int) (w:World) (hn:n≤l.length) (hlen:n≤140737488355328) (hc:∀ j y,l[j]? = some y→w.cell? ⟨b,off+j,none⟩=some (.int .i64 y)) :
  Calls Tryz.prog 57 #[.slice (some ⟨b,off,none⟩) n c,.int .i64 x] w (RetIx l n x w):=by
 have HC:=Lh hc;have HN:=Lh hn;clear hc hn;go_enter Tryz.func57,Tryz.ntmps57
 go_wp2_with fail
 go_loopw [8] (fun i wr=>∃ j:Nat,j≤n∧i = .int .i64 j∧Hid (∀ s y,s < j→l[s]? = some y→y≠x)∧wr=w) (fun i _=>n - (intOf i).toNat)
 case atStart=>exact ⟨0,Nat.zero_le _,rfl,Lh (fun s y h=>absurd h (by omega)),rfl⟩
 case round =>
  obtain ⟨j,hj,rfl,HNE,rfl⟩:=hrel
  by_cases hlt:j < n
  ·have hltI:(j:Int) < n:=by omega
   obtain ⟨y,hy⟩:∃ y,l[j]? = some y:=⟨_,List.getElem?_eq_getElem (by have:=HN.out; omega)⟩
   have c0:=HC.out j y hy
   by_cases hyx:x=y
   ·have hb1:(x == y)=true:=by simp [hyx]
    have HY:Hid (l[j]? = some x):=Lh (by rw [hy,hyx]);clear hy hyx
    go_wp2
    go_ret;exact ⟨rfl,_,rfl,.inl ⟨by omega,j,hlt,HY.out⟩⟩
   ·have hb1:(x == y)=false:=by simp [hyx]
    have HZ2:Hid (∀ s y,s < j+1→l[s]? = some y→y≠x):=Lh (by
     intro s z hs hz
     by_cases hst:s=j
     ·subst hst;rw [hy] at hz
      injection hz with hz
      rw [← hz]; exact fun h=>hyx h.symm
     ·exact HNE.out s z (by omega) hz)
    clear hy hyx
    go_wp2
    go_roundw
    case rel=>exact ⟨j+1,by omega,by go_num,HZ2,trivial⟩
    case measure=>simp [intOf]; omega
  ·have hltI:¬ (j:Int) < n:=by omega
   obtain rfl:n=j:=by omega
   go_wp2
   go_ret;exact ⟨rfl,_,rfl,.inr ⟨by omega,HNE.out⟩⟩
def ZqG (l:List Int) (n:Nat) (x:Int) (w:World) (e:Ending) (w':World):Prop :=
 w'=w∧∃ r:Bool,e = .returned (.bool r)∧(r=true∧(∃ s,s < n∧l[s]? = some x)∨r=false∧∀ s y,s < n→l[s]? = some y→y≠x)
theorem Zj0 (l:List Int) (n:Nat) (b off c:Nat) (x:Int) (w:World) (hn:n≤l.length) (hlen:n≤140737488355328) (hc:∀ j y,l[j]? = some y→w.cell? ⟨b,off+j,none⟩=some (.int .i64 y)) :
  Calls Tryz.prog 36 #[.slice (some ⟨b,off,none⟩) n c,.int .i64 x] w (ZqG l n x w):=by
 have HI:=Lh (ZoN l n b off c x w hn hlen hc);clear hc hn;go_enter Tryz.func36,Tryz.ntmps36
 go_wp2_with (go_at_call 57; (with_reducible refine (HI.out).mono ?_); rintro e w1 ⟨rfl,z,rfl,hz⟩; have HZ:=Lh hz; clear hz)
 go_ret;refine ⟨rfl,_,rfl,?_⟩
 rcases HZ.out with ⟨h1,h2⟩ | ⟨h1,h2⟩
 ·exact .inl ⟨by simpa using h1,h2⟩
 ·exact .inr ⟨by simpa using h1,h2⟩
end Go.Proofs.YtjndhfcfcedheaaGreatDoor
