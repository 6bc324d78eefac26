/- Texts that belong together: UU. -/
import Derived.Test.YtjndhfcfcedheaaGreatDoorHK8
set_option linter.unusedVariables false
set_option linter.unusedSimpArgs false
set_option maxRecDepth 100000
set_option maxHeartbeats 16000000
namespace Go.Proofs.YtjndhfcfcedheaaGreatDoor
open Go.RowKit
def evH (p:KP):List Ev:=if p.kind=3 then [.va p.v] else if p.kind=5∨p.kind=6 then [.ch p.c] else []
theorem Zn0 (p:KP):evP p=evH p++(p.tos.flatMap ZbN++(p.e.flatMap evO++p.g.flatMap evG)):=by unfold evP evH; simp only [List.append_assoc]
theorem KG.One.parts {w:World} {B:Nat} {g:KG} (h:g.One w B):g.cond.In w B∧g.dst.In w B∧g.time.In w B:=⟨h.2.1,h.2.2.1,h.2.2.2.1⟩
theorem Zb8 {X:Nat→Prop} {A B:World} (h:Z0 X A B) {k:Nat} {t:TypeId} {cs:Array Value} (hx:¬ X k) (hb:Blk A k t cs):Blk B k t cs:=h.block k cs t (0,0) hx hb
theorem ZiM (p:KP) (u:UsL) (D:World→Prop) (S0 B:Nat) (I:List Ev→World→Prop) (xs pre r:List Ev) (W:World) (hu:ZdK u D S0 I xs) (hd:∀ W,D W→p.In W B) (hB:B≤S0) (hi:I pre W) (hxs:xs=pre++(evP p++r)) :
  Calls Tryz.prog 20 #[.agg u.cells,.agg p.cells] W (Zkg S0 I (pre++evP p) W):=by
 have hS:=(hu.hD _ _ hi).2;have HU:=Lh hu;have HD:=Lh hd;have hone:=(hd W (hu.hD _ _ hi).1).one;have hl1:=hone.2.1.1;have hl2:=hone.2.2.1.1;have hl3:=hone.1.2.2.2.2.1;have hk64:=hone.1.1;unfold ZB at hl1 hl2 hl3;have S:=Lh (UsS.start hu hi 31 p.cells);rw [Zn0] at hxs;have HXS:=Lh hxs
 have HE:Hid (∀ e' w',Zkg S0 I (pre++(evH p++(p.tos.flatMap ZbN++(p.e.flatMap evO++p.g.flatMap evG)))) W e' w'→Zkg S0 I (pre++evP p) W e' w'):=Lh fun e' w' h=>by rw [Zn0]; exact h
 refine Calls.mono ?_ HE.out;have HSD:Hid (∀ p w,I p w→D w∧S0≤w.heap.size):=Lh hu.hD
 obtain ⟨nt,hnt⟩:∃ n,p.tos.length=n:=⟨_,rfl⟩
 obtain ⟨ne,hne⟩:∃ n,p.e.length=n:=⟨_,rfl⟩
 obtain ⟨ng,hng⟩:∃ n,p.g.length=n:=⟨_,rfl⟩
 obtain ⟨PT,hPT⟩:∃ q,p.At=q:=⟨_,rfl⟩
 obtain ⟨PE,hPE⟩:∃ q,p.Ae=q:=⟨_,rfl⟩
 obtain ⟨PG,hPG⟩:∃ q,p.Ag=q:=⟨_,rfl⟩
 have HNT:=Lh hnt;have HNE:=Lh hne;have HNG:=Lh hng;have HPT:=Lh hPT;have HPE:=Lh hPE;have HPG:=Lh hPG;have HAL:Hid (∀ (p1:List Ev) (w1:World) (o:Obj),UsS u D S0 I W 31 #[.int .u8 p.kind,.int .i64 p.c,.int .i64 p.v,.int .u8 p.item,.slice PT nt p.ct,.slice PE ne p.ce,.slice PG ng p.cg,.slice p.Al p.l.length p.cl] (p1) w1→UsS u D S0 I W 31 #[.int .u8 p.kind,.int .i64 p.c,.int .i64 p.v,.int .u8 p.item,.slice PT nt p.ct,.slice PE ne p.ce,.slice PG ng p.cg,.slice p.Al p.l.length p.cl] (p1) (w1.alloc o)):=Lh fun p1 w1 o h=>h.alloc HU.out o;have HCO:Hid (∀ (w1:World) (x:KE) (p1 r1:List Ev),(∀ W,D W→x.In W B)→xs=p1++(evO x++r1)→UsS u D S0 I W 31 #[.int .u8 p.kind,.int .i64 p.c,.int .i64 p.v,.int .u8 p.item,.slice PT nt p.ct,.slice PE ne p.ce,.slice PG ng p.cg,.slice p.Al p.l.length p.cl] (p1) w1→Calls Tryz.prog 46 #[.agg u.cells,.agg x.cells] w1 (ZcU u D S0 I W 31 #[.int .u8 p.kind,.int .i64 p.c,.int .i64 p.v,.int .u8 p.item,.slice PT nt p.ct,.slice PE ne p.ce,.slice PG ng p.cg,.slice p.Al p.l.length p.cl] (p1++evO x) w1)):=Lh fun w1 x p1 r1 hx hp h=>h.told hS (Zps x u D S0 B I xs p1 r1 w1 HU.out hx hB h.i hp);have HCP:Hid (∀ (w1:World) (x:KPl) (p1 r1:List Ev),(∀ W,D W→x.In W B)→xs=p1++(ZbN x++r1)→UsS u D S0 I W 31 #[.int .u8 p.kind,.int .i64 p.c,.int .i64 p.v,.int .u8 p.item,.slice PT nt p.ct,.slice PE ne p.ce,.slice PG ng p.cg,.slice p.Al p.l.length p.cl] (p1) w1→Calls Tryz.prog 45 #[.agg u.cells,.agg x.cells] w1 (ZcU u D S0 I W 31 #[.int .u8 p.kind,.int .i64 p.c,.int .i64 p.v,.int .u8 p.item,.slice PT nt p.ct,.slice PE ne p.ce,.slice PG ng p.cg,.slice p.Al p.l.length p.cl] (p1++ZbN x) w1)):=Lh fun w1 x p1 r1 hx hp h=>h.told hS (Zpr x u D S0 B I xs p1 r1 w1 HU.out hx hB h.i hp);have HCH:Hid (∀ (w1:World) (c:Int) (p1 r1:List Ev),xs=p1++.ch c :: r1→UsS u D S0 I W 31 #[.int .u8 p.kind,.int .i64 p.c,.int .i64 p.v,.int .u8 p.item,.slice PT nt p.ct,.slice PE ne p.ce,.slice PG ng p.cg,.slice p.Al p.l.length p.cl] (p1) w1→Calls Tryz.prog u.gc (#[.int .i64 c]++u.lc) w1 (ZcU u D S0 I W 31 #[.int .u8 p.kind,.int .i64 p.c,.int .i64 p.v,.int .u8 p.item,.slice PT nt p.ct,.slice PE ne p.ce,.slice PG ng p.cg,.slice p.Al p.l.length p.cl] (p1++[.ch c]) w1)):=Lh fun w1 c p1 r1 hp h=>h.told hS (HU.out.hc p1 c r1 w1 h.i hp);have HCV:Hid (∀ (w1:World) (c:Int) (p1 r1:List Ev),xs=p1++.va c :: r1→UsS u D S0 I W 31 #[.int .u8 p.kind,.int .i64 p.c,.int .i64 p.v,.int .u8 p.item,.slice PT nt p.ct,.slice PE ne p.ce,.slice PG ng p.cg,.slice p.Al p.l.length p.cl] (p1) w1→Calls Tryz.prog u.gv (#[.int .i64 c]++u.lv) w1 (ZcU u D S0 I W 31 #[.int .u8 p.kind,.int .i64 p.c,.int .i64 p.v,.int .u8 p.item,.slice PT nt p.ct,.slice PE ne p.ce,.slice PG ng p.cg,.slice p.Al p.l.length p.cl] (p1++[.va c]) w1)):=Lh fun w1 c p1 r1 hp h=>h.told hS (HU.out.hv p1 c r1 w1 h.i hp);have HEV:=hu.ev;have HEC:=hu.ec;unfold Zbw at HEV HEC;obtain ⟨gv,lv,gc,lc,ge,le⟩:=u;simp only [UsL.cells,KP.cells,hnt,hne,hng,hPT,hPE,hPG] at S HCO HCP HCH HCV HEV HEC ⊢;rw [hnt] at hl1;rw [hne] at hl2;rw [hng] at hl3;clear hu hd hi hxs hnt hne hng hPT hPE hPG HU hone;generalize hW:(W.alloc _).alloc _=W1 at S
 obtain ⟨us,hus⟩:∃ us:UsL,us=⟨gv,lv,gc,lc,ge,le⟩:=⟨_,rfl⟩
 have HUS:=Lh hus;rw [← hus] at S HCO HCP HCH HCV HAL
 obtain ⟨own,how⟩:∃ own,evH p=own:=⟨_,rfl⟩
 have HOW:=Lh how;rw [how] at HXS;rw [how];clear how;have b1:=S.out.bu;have b2:=S.out.bp;have hz:=b2.lt;rw [hus] at b1;simp only [UsL.cells] at b1;obtain ⟨c0,c1,c2⟩:=b1.c3;simp at c0 c1 c2;obtain ⟨e0,e1,e2,e3,e4,e5,e6,e7⟩:=b2.c8;simp at e0 e1 e2 e3 e4 e5 e6 e7;clear b1 b2 hus;go_enter Tryz.func20,Tryz.ntmps20
 go_upto_region 1 with fail
 clear hW
 go_upto_block 0 with fail
 go_cut [12,19] (fun s12 s19 wx=>Hid (UsS us D S0 I W 31 #[.int .u8 p.kind,.int .i64 p.c,.int .i64 p.v,.int .u8 p.item,.slice PT nt p.ct,.slice PE ne p.ce,.slice PG ng p.cg,.slice p.Al p.l.length p.cl] (pre++own) wx))
 case first =>
  have hcase:p.kind=3∨p.kind=5∨p.kind=6∨(p.kind≠3∧p.kind≠5∧p.kind≠6):=by omega
  rcases hcase with hk3 | hk5 | hk6 | ⟨hk3,hk5,hk6⟩
  case' inl =>
   have y3:((p.kind:Int) == 3)=true:=by simp [hk3]
   have y5:((p.kind:Int) == 5)=false:=by simp [hk3]
   have y6:((p.kind:Int) == 6)=false:=by simp [hk3]
   have HK3:=Lh hk3;have HO1:Hid (own=[.va p.v]):=Lh (by rw [← HOW.out]; unfold evH; simp [hk3]);have HX1:Hid (xs=pre++.va p.v :: (p.tos.flatMap ZbN++(p.e.flatMap evO++p.g.flatMap evG)++r)):=Lh (by rw [HXS.out,HO1.out]; simp);clear hk3
   go_wp2_with (first
    | ((with_reducible refine (HCV.out _ _ _ _ HX1.out S.out).mono ?_); rintro e1 w2 ⟨rfl,S2',K2⟩
       have S2:Hid (UsS us D S0 I W 31 #[.int .u8 p.kind,.int .i64 p.c,.int .i64 p.v,.int .u8 p.item,.slice PT nt p.ct,.slice PE ne p.ce,.slice PG ng p.cg,.slice p.Al p.l.length p.cl] (pre++own) w2):=Lh (by rw [HO1.out]; exact S2'.out)
       clear S2' K2 HX1 HO1))
   go_meet;exact S2
  case' inr.inl =>
   have y3:((p.kind:Int) == 3)=false:=by simp [hk5]
   have y5:((p.kind:Int) == 5)=true:=by simp [hk5]
   have y6:((p.kind:Int) == 6)=false:=by simp [hk5]
   have HK5:=Lh hk5;have HO1:Hid (own=[.ch p.c]):=Lh (by rw [← HOW.out]; unfold evH; simp [hk5]);have HX1:Hid (xs=pre++.ch p.c :: (p.tos.flatMap ZbN++(p.e.flatMap evO++p.g.flatMap evG)++r)):=Lh (by rw [HXS.out,HO1.out]; simp);clear hk5
   go_wp2_with (first
    | ((with_reducible refine (HCH.out _ _ _ _ HX1.out S.out).mono ?_); rintro e1 w2 ⟨rfl,S2',K2⟩
       have S2:Hid (UsS us D S0 I W 31 #[.int .u8 p.kind,.int .i64 p.c,.int .i64 p.v,.int .u8 p.item,.slice PT nt p.ct,.slice PE ne p.ce,.slice PG ng p.cg,.slice p.Al p.l.length p.cl] (pre++own) w2):=Lh (by rw [HO1.out]; exact S2'.out)
       clear S2' K2 HX1 HO1))
   go_meet;exact S2
  case' inr.inr.inl =>
   have y3:((p.kind:Int) == 3)=false:=by simp [hk6]
   have y5:((p.kind:Int) == 5)=false:=by simp [hk6]
   have y6:((p.kind:Int) == 6)=true:=by simp [hk6]
   have HK6:=Lh hk6;have HO1:Hid (own=[.ch p.c]):=Lh (by rw [← HOW.out]; unfold evH; simp [hk6]);have HX1:Hid (xs=pre++.ch p.c :: (p.tos.flatMap ZbN++(p.e.flatMap evO++p.g.flatMap evG)++r)):=Lh (by rw [HXS.out,HO1.out]; simp);clear hk6
   go_wp2_with (first
    | ((with_reducible refine (HCH.out _ _ _ _ HX1.out S.out).mono ?_); rintro e1 w2 ⟨rfl,S2',K2⟩
       have S2:Hid (UsS us D S0 I W 31 #[.int .u8 p.kind,.int .i64 p.c,.int .i64 p.v,.int .u8 p.item,.slice PT nt p.ct,.slice PE ne p.ce,.slice PG ng p.cg,.slice p.Al p.l.length p.cl] (pre++own) w2):=Lh (by rw [HO1.out]; exact S2'.out)
       clear S2' K2 HX1 HO1))
   go_meet;exact S2
  case' inr.inr.inr =>
   have y3:((p.kind:Int) == 3)=false:=by simp; omega
   have y5:((p.kind:Int) == 5)=false:=by simp; omega
   have y6:((p.kind:Int) == 6)=false:=by simp; omega
   have HO1:Hid (own=[]):=Lh (by rw [← HOW.out]; unfold evH; simp [hk3,hk5,hk6]);have S2:Hid (UsS us D S0 I W 31 #[.int .u8 p.kind,.int .i64 p.c,.int .i64 p.v,.int .u8 p.item,.slice PT nt p.ct,.slice PE ne p.ce,.slice PG ng p.cg,.slice p.Al p.l.length p.cl] (pre++own) W1):=Lh (by rw [HO1.out,List.append_nil]; exact S.out);clear hk3 hk5 hk6
   go_wp2_with fail
   go_meet;exact S2
 case rest =>
  have S2:=hcut;clear hcut;clear S c0 c1 c2 e0 e1 e2 e3 e4 e5 e6 e7 hz;have x1:=S2.out.bp;have hpw:=x1.lt;obtain ⟨e0,e1,e2,e3,e4,e5,e6,e7⟩:=x1.c8;simp at e0 e1 e2 e3 e4 e5 e6 e7;clear x1
  go_wp2_with fail
  go_loopw [30] (fun i wr=>∃ j:Nat,j≤nt∧i = .int .i64 j∧Hid (UsS us D S0 I W 31 #[.int .u8 p.kind,.int .i64 p.c,.int .i64 p.v,.int .u8 p.item,.slice PT nt p.ct,.slice PE ne p.ce,.slice PG ng p.cg,.slice p.Al p.l.length p.cl] (pre++own++(p.tos.take j).flatMap ZbN) wr)) (fun i _=>nt - (intOf i).toNat)
  case atStart=>exact ⟨0,Nat.zero_le _,rfl,Lh (by rw [List.take_zero,List.flatMap_nil,List.append_nil]; exact S2.out)⟩
  case round =>
   clear S2 e0 e1 e2 e3 e4 e5 e6 e7 hpw;obtain ⟨j,hj,rfl,S⟩:=hrel;have x1:=S.out.bp;have x2:=S.out.bu;have hpw:=x1.lt;rw [HUS.out] at x2;simp only [UsL.cells] at x2;obtain ⟨e0,e1,e2,e3,e4,e5,e6,e7⟩:=x1.c8;simp at e0 e1 e2 e3 e4 e5 e6 e7;obtain ⟨c0,c1,c2⟩:=x2.c3;simp at c0 c1 c2;clear x1 x2
   by_cases hlt:j < nt
   ·have hltI:(j:Int) < nt:=by omega
    have hin:=HSD.out _ _ S.out.i;have hBw:B≤wr.heap.size:=Nat.le_trans hB hin.2;obtain ⟨b,off,x,hA,hb,hx,hxi,d0,d1⟩:=Zdc (HD.out _ hin.1).one.2.1 HNT.out (k:=j) hlt;have hbw:b < wr.heap.size:=Nat.lt_of_lt_of_le hb hBw;obtain rfl:PT=some ⟨b,off,none⟩:=HPT.out.symm.trans hA;have hdx:∀ W,D W→x.In W B:=fun W hW=>(HD.out W hW).one.2.1.2.2 x (List.mem_of_getElem? hx);have S2:=Lh (HAL.out _ _ (.cells x.cells 105) S.out);have bx:=Blk.new wr 105 x.cells;have HB:=Lh bx;have HXL:Hid (xs=(pre++own++(p.tos.take j).flatMap ZbN)++(ZbN x++((p.tos.drop (j+1)).flatMap ZbN++(p.e.flatMap evO++(p.g.flatMap evG++r))))):=Lh (by rw [HXS.out,Zbl ZbN hx]; simp only [List.append_assoc]);have HNX:Hid (pre++own++(p.tos.take (j+1)).flatMap ZbN=(pre++own++(p.tos.take j).flatMap ZbN)++ZbN x):=Lh (by rw [Zat ZbN hx]; simp only [List.append_assoc]);have HC:Hid (∀ w1:World,UsS us D S0 I W 31 #[.int .u8 p.kind,.int .i64 p.c,.int .i64 p.v,.int .u8 p.item,.slice (some ⟨b,off,none⟩) nt p.ct,.slice PE ne p.ce,.slice PG ng p.cg,.slice p.Al p.l.length p.cl] (pre++own++(p.tos.take j).flatMap ZbN) w1→Calls Tryz.prog 45 #[.agg #[.func (.func gv) #[] lv,.func (.func gc) #[] lc,.func (.func ge) #[] le],.agg x.cells] w1 (ZcU us D S0 I W 31 #[.int .u8 p.kind,.int .i64 p.c,.int .i64 p.v,.int .u8 p.item,.slice (some ⟨b,off,none⟩) nt p.ct,.slice PE ne p.ce,.slice PG ng p.cg,.slice p.Al p.l.length p.cl] ((pre++own++(p.tos.take j).flatMap ZbN)++ZbN x) w1)):=Lh fun w1 h=>HCP.out w1 x _ _ hdx HXL.out h;simp only [KPl.cells] at S2 bx HC HB;clear bx hx hA hin HXL hdx hxi
    go_upto_region 10 with fail
    generalize wr.alloc _=w2 at *;have x1:=S2.out.bp;have x2:=S2.out.bu;have bx:=HB.out;have hpw2:=x1.lt;have hxw:=bx.lt;rw [HUS.out] at x2;simp only [UsL.cells] at x2;clear c0 c1 c2 e0 e1 e2 e3 e4 e5 e6 e7 d0 d1 HB S hbw hBw hb hpw;obtain ⟨c0,c1,c2⟩:=x2.c3;simp at c0 c1 c2;obtain ⟨d0,d1⟩:=bx.c2;simp at d0 d1;clear x1 x2 bx
    go_wp2_with (first
     | (go_at_call 45; (with_reducible refine (HC.out _ S2.out).mono ?_); rintro e1 w3 ⟨rfl,S3,K3⟩))
    go_roundw
    case rel=>exact ⟨j+1,by omega,by go_num,Lh (by rw [HNX.out]; exact S3.out)⟩
    case measure=>simp [intOf]; omega
   ·have hltI:¬ (j:Int) < nt:=by omega
    obtain rfl:nt=j:=by omega
    have htk:p.tos.take nt=p.tos:=List.take_of_length_le (by rw [HNT.out]; omega);have S2:Hid (UsS us D S0 I W 31 #[.int .u8 p.kind,.int .i64 p.c,.int .i64 p.v,.int .u8 p.item,.slice PT nt p.ct,.slice PE ne p.ce,.slice PG ng p.cg,.slice p.Al p.l.length p.cl] (pre++own++p.tos.flatMap ZbN) wr):=Lh (by have:=S.out; rw [htk] at this; exact this);clear htk S c0 c1 c2
    go_wp2_with fail
    go_loopw [41] (fun i wr=>∃ j:Nat,j≤ne∧i = .int .i64 j∧Hid (UsS us D S0 I W 31 #[.int .u8 p.kind,.int .i64 p.c,.int .i64 p.v,.int .u8 p.item,.slice PT nt p.ct,.slice PE ne p.ce,.slice PG ng p.cg,.slice p.Al p.l.length p.cl] (pre++own++p.tos.flatMap ZbN++(p.e.take j).flatMap evO) wr)) (fun i _=>ne - (intOf i).toNat)
    case atStart=>exact ⟨0,Nat.zero_le _,rfl,Lh (by rw [List.take_zero,List.flatMap_nil,List.append_nil]; exact S2.out)⟩
    case round =>
     clear S2 e0 e1 e2 e3 e4 e5 e6 e7 hpw;obtain ⟨j,hj,rfl,S⟩:=hrel;have x1:=S.out.bp;have x2:=S.out.bu;have hpw:=x1.lt;rw [HUS.out] at x2;simp only [UsL.cells] at x2;obtain ⟨e0,e1,e2,e3,e4,e5,e6,e7⟩:=x1.c8;simp at e0 e1 e2 e3 e4 e5 e6 e7;obtain ⟨c0,c1,c2⟩:=x2.c3;simp at c0 c1 c2;clear x1 x2
     by_cases hlt:j < ne
     ·have hltI:(j:Int) < ne:=by omega
      have hin:=HSD.out _ _ S.out.i;have hBw:B≤wr.heap.size:=Nat.le_trans hB hin.2;obtain ⟨b,off,x,hA,hb,hx,hmx,hxi,d0,d1,d2,d3,d4,d5⟩:=Zfe (HD.out _ hin.1).one.2.2.1 (k:=j) (by rw [HNE.out]; exact hlt);have hbw:b < wr.heap.size:=Nat.lt_of_lt_of_le hb hBw;obtain rfl:PE=some ⟨b,off,none⟩:=HPE.out.symm.trans hA;have hdx:∀ W,D W→x.In W B:=fun W hW=>(HD.out W hW).one.2.2.1.2.2 x hmx;have S2:=Lh (HAL.out _ _ (.cells x.cells 65) S.out);have bx:=Blk.new wr 65 x.cells;have HB:=Lh bx;have HXL:Hid (xs=(pre++own++p.tos.flatMap ZbN++(p.e.take j).flatMap evO)++(evO x++((p.e.drop (j+1)).flatMap evO++(p.g.flatMap evG++r)))):=Lh (by rw [HXS.out,Zbl evO hx]; simp only [List.append_assoc]);have HNX:Hid (pre++own++p.tos.flatMap ZbN++(p.e.take (j+1)).flatMap evO=(pre++own++p.tos.flatMap ZbN++(p.e.take j).flatMap evO)++evO x):=Lh (by rw [Zat evO hx]; simp only [List.append_assoc]);have HC:Hid (∀ w1:World,UsS us D S0 I W 31 #[.int .u8 p.kind,.int .i64 p.c,.int .i64 p.v,.int .u8 p.item,.slice PT nt p.ct,.slice (some ⟨b,off,none⟩) ne p.ce,.slice PG ng p.cg,.slice p.Al p.l.length p.cl] (pre++own++p.tos.flatMap ZbN++(p.e.take j).flatMap evO) w1→Calls Tryz.prog 46 #[.agg #[.func (.func gv) #[] lv,.func (.func gc) #[] lc,.func (.func ge) #[] le],.agg x.cells] w1 (ZcU us D S0 I W 31 #[.int .u8 p.kind,.int .i64 p.c,.int .i64 p.v,.int .u8 p.item,.slice PT nt p.ct,.slice (some ⟨b,off,none⟩) ne p.ce,.slice PG ng p.cg,.slice p.Al p.l.length p.cl] ((pre++own++p.tos.flatMap ZbN++(p.e.take j).flatMap evO)++evO x) w1)):=Lh fun w1 h=>HCO.out w1 x _ _ hdx HXL.out h;simp only [KE.cells] at S2 bx HC HB;clear bx hx hA hin HXL hdx hmx hxi
      go_upto_region 15 with fail
      generalize wr.alloc _=w2 at *;have x1:=S2.out.bp;have x2:=S2.out.bu;have bx:=HB.out;have hpw2:=x1.lt;have hxw:=bx.lt;rw [HUS.out] at x2;simp only [UsL.cells] at x2;clear c0 c1 c2 e0 e1 e2 e3 e4 e5 e6 e7 d0 d1 d2 d3 d4 d5 HB S hbw hBw hb hpw;obtain ⟨c0,c1,c2⟩:=x2.c3;simp at c0 c1 c2;obtain ⟨d0,d1,d2,d3,d4,d5⟩:=bx.c6;simp at d0 d1 d2 d3 d4 d5;clear x1 x2 bx
      go_wp2_with (first
       | (go_at_call 46; (with_reducible refine (HC.out _ S2.out).mono ?_); rintro e1 w3 ⟨rfl,S3,K3⟩))
      go_roundw
      case rel=>exact ⟨j+1,by omega,by go_num,Lh (by rw [HNX.out]; exact S3.out)⟩
      case measure=>simp [intOf]; omega
     ·have hltI:¬ (j:Int) < ne:=by omega
      obtain rfl:ne=j:=by omega
      have htk:p.e.take ne=p.e:=List.take_of_length_le (by rw [HNE.out]; omega);have S2:Hid (UsS us D S0 I W 31 #[.int .u8 p.kind,.int .i64 p.c,.int .i64 p.v,.int .u8 p.item,.slice PT nt p.ct,.slice PE ne p.ce,.slice PG ng p.cg,.slice p.Al p.l.length p.cl] (pre++own++p.tos.flatMap ZbN++p.e.flatMap evO) wr):=Lh (by have:=S.out; rw [htk] at this; exact this);clear htk S c0 c1 c2
      go_wp2_with fail
      go_loopw [52] (fun i wr=>∃ j:Nat,j≤ng∧i = .int .i64 j∧Hid (UsS us D S0 I W 31 #[.int .u8 p.kind,.int .i64 p.c,.int .i64 p.v,.int .u8 p.item,.slice PT nt p.ct,.slice PE ne p.ce,.slice PG ng p.cg,.slice p.Al p.l.length p.cl] (pre++own++p.tos.flatMap ZbN++p.e.flatMap evO++(p.g.take j).flatMap evG) wr)) (fun i _=>ng - (intOf i).toNat)
      case atStart=>exact ⟨0,Nat.zero_le _,rfl,Lh (by rw [List.take_zero,List.flatMap_nil,List.append_nil]; exact S2.out)⟩
      case round =>
       clear S2 e0 e1 e2 e3 e4 e5 e6 e7 hpw;obtain ⟨j,hj,rfl,S⟩:=hrel;have x1:=S.out.bp;have x2:=S.out.bu;have hpw:=x1.lt;rw [HUS.out] at x2;simp only [UsL.cells] at x2;obtain ⟨e0,e1,e2,e3,e4,e5,e6,e7⟩:=x1.c8;simp at e0 e1 e2 e3 e4 e5 e6 e7;obtain ⟨c0,c1,c2⟩:=x2.c3;simp at c0 c1 c2;clear x1 x2
       by_cases hlt:j < ng
       ·have hltI:(j:Int) < ng:=by omega
        have hin:=HSD.out _ _ S.out.i;have hBw:B≤wr.heap.size:=Nat.le_trans hB hin.2;obtain ⟨b,off,x,hA,hb,hx,hmx,hG⟩:=Zb7 (HD.out _ hin.1).one.2.2.2.1.1 rfl (k:=j) (by rw [HNG.out]; exact hlt);have hbw:b < wr.heap.size:=Nat.lt_of_lt_of_le hb hBw;obtain rfl:PG=some ⟨b,off,none⟩:=HPG.out.symm.trans hA;have HG:=Lh hG;have hgi:∀ W,D W→x.One W B:=fun W hW=>(HD.out W hW).one.2.2.2.1.2 x hmx;have HGI:=Lh hgi;have hk8:=(hgi _ hin.1).1.1;have S2:=Lh (HAL.out _ _ (.cells x.flat 109) S.out);have bx:=Blk.new wr 109 x.flat;have hSP:S0≤wr.heap.size:=hin.2
        obtain ⟨tl,htl⟩:∃ tl,(p.g.drop (j+1)).flatMap evG++r=tl:=⟨_,rfl⟩
        have HXL:Hid (xs=(pre++own++p.tos.flatMap ZbN++p.e.flatMap evO++(p.g.take j).flatMap evG)++(evG x++tl)):=Lh (by rw [HXS.out,Zbl evG hx,← htl]; simp only [List.append_assoc]);have HNX:Hid (pre++own++p.tos.flatMap ZbN++p.e.flatMap evO++(p.g.take (j+1)).flatMap evG=(pre++own++p.tos.flatMap ZbN++p.e.flatMap evO++(p.g.take j).flatMap evG)++evG x):=Lh (by rw [Zat evG hx]; simp only [List.append_assoc])
        obtain ⟨pj,hpj⟩:∃ pj,pre++own++p.tos.flatMap ZbN++p.e.flatMap evO++(p.g.take j).flatMap evG=pj:=⟨_,rfl⟩
        rw [hpj] at HXL HNX S S2;have HCC:Hid (∀ (w1:World) (tl2:List Ev),xs=pj++(evO x.cond++tl2)→UsS us D S0 I W 31 #[.int .u8 p.kind,.int .i64 p.c,.int .i64 p.v,.int .u8 p.item,.slice PT nt p.ct,.slice PE ne p.ce,.slice (some ⟨b,off,none⟩) ng p.cg,.slice p.Al p.l.length p.cl] (pj) w1→Calls Tryz.prog 46 #[.agg #[.func (.func gv) #[] lv,.func (.func gc) #[] lc,.func (.func ge) #[] le],.agg x.cond.cells] w1 (ZcU us D S0 I W 31 #[.int .u8 p.kind,.int .i64 p.c,.int .i64 p.v,.int .u8 p.item,.slice PT nt p.ct,.slice PE ne p.ce,.slice (some ⟨b,off,none⟩) ng p.cg,.slice p.Al p.l.length p.cl] (pj++evO x.cond) w1)):=Lh fun w1 tl2 hp h=>HCO.out w1 x.cond pj tl2 (fun W hW=>(HGI.out W hW).parts.1) hp h;have HCT:Hid (∀ (w1:World) (tl2:List Ev),xs=(pj++evO x.cond)++(evO x.time++tl2)→UsS us D S0 I W 31 #[.int .u8 p.kind,.int .i64 p.c,.int .i64 p.v,.int .u8 p.item,.slice PT nt p.ct,.slice PE ne p.ce,.slice (some ⟨b,off,none⟩) ng p.cg,.slice p.Al p.l.length p.cl] (pj++evO x.cond) w1→Calls Tryz.prog 46 #[.agg #[.func (.func gv) #[] lv,.func (.func gc) #[] lc,.func (.func ge) #[] le],.agg x.time.cells] w1 (ZcU us D S0 I W 31 #[.int .u8 p.kind,.int .i64 p.c,.int .i64 p.v,.int .u8 p.item,.slice PT nt p.ct,.slice PE ne p.ce,.slice (some ⟨b,off,none⟩) ng p.cg,.slice p.Al p.l.length p.cl] ((pj++evO x.cond)++evO x.time) w1)):=Lh fun w1 tl2 hp h=>HCO.out w1 x.time _ tl2 (fun W hW=>(HGI.out W hW).parts.2.2) hp h;have HCD:Hid (∀ (w1:World) (tl2:List Ev),xs=(pj++evO x.cond++[.ch x.c])++(ZbN x.dst++tl2)→UsS us D S0 I W 31 #[.int .u8 p.kind,.int .i64 p.c,.int .i64 p.v,.int .u8 p.item,.slice PT nt p.ct,.slice PE ne p.ce,.slice (some ⟨b,off,none⟩) ng p.cg,.slice p.Al p.l.length p.cl] (pj++evO x.cond++[.ch x.c]) w1→Calls Tryz.prog 45 #[.agg #[.func (.func gv) #[] lv,.func (.func gc) #[] lc,.func (.func ge) #[] le],.agg x.dst.cells] w1 (ZcU us D S0 I W 31 #[.int .u8 p.kind,.int .i64 p.c,.int .i64 p.v,.int .u8 p.item,.slice PT nt p.ct,.slice PE ne p.ce,.slice (some ⟨b,off,none⟩) ng p.cg,.slice p.Al p.l.length p.cl] ((pj++evO x.cond++[.ch x.c])++ZbN x.dst) w1)):=Lh fun w1 tl2 hp h=>HCP.out w1 x.dst _ tl2 (fun W hW=>(HGI.out W hW).parts.2.1) hp h;simp only [KE.cells] at HCC HCT;simp only [KPl.cells] at HCD;have HB2:=Lh bx;clear bx hx hA hin hgi hG hmx htl hpj
        go_upto_region 20 with (first
         | (refine Zaf rfl _ rfl (b:=b) (o:=off+j * 18) rfl HG.out ?_)
         | (refine Z9 rfl _ _ rfl (w:=wr) (g:=x) rfl rfl ?_))
        generalize wr.alloc _=w2 at *;simp only [KG.flat] at HB2;clear c0 c1 c2 e0 e1 e2 e3 e4 e5 e6 e7 HG S hbw hBw hb hpw
        by_cases g3:x.kind=3
        ·have z3:((x.kind:Int) == 3)=true:=by simp [g3]
         have HXG:Hid (xs=pj++(evO x.cond++(.ch x.c :: (ZbN x.dst++tl)))):=Lh (by rw [HXL.out]; unfold evG; rw [if_pos g3]; simp);have HEG:Hid (pj++evG x=(pj++evO x.cond++[.ch x.c])++ZbN x.dst):=Lh (by unfold evG; rw [if_pos g3]; simp);clear g3;have x1:=S2.out.bp;have x2:=S2.out.bu;have bx:=HB2.out;have hpw2:=x1.lt;have hxw:=bx.lt;rw [HUS.out] at x2;simp only [UsL.cells] at x2;obtain ⟨c0,c1,c2⟩:=x2.c3;simp at c0 c1 c2;have d0:=bx.cell 0;have d1:=bx.cell 1;have d2:=bx.cell 2;have d3:=bx.cell 3;have d4:=bx.cell 4;have d5:=bx.cell 5;have d6:=bx.cell 6;have d7:=bx.cell 7;have d8:=bx.cell 8;have d9:=bx.cell 9;have d10:=bx.cell 10;have d11:=bx.cell 11;have d12:=bx.cell 12;have d13:=bx.cell 13;have d14:=bx.cell 14;have d15:=bx.cell 15;have d16:=bx.cell 16;have d17:=bx.cell 17;simp at d0 d1 d2 d3 d4 d5 d6 d7 d8 d9 d10 d11 d12 d13 d14 d15 d16 d17;clear x1 x2 bx
         go_upto_region 21 with (first
          | (go_at_call 46; (with_reducible refine (HCC.out _ _ HXG.out S2.out).mono ?_); rintro e1 w3 ⟨rfl,S3,K3⟩
             have HB3:=Lh (Zb8 K3.out (Nat.not_lt.2 hSP) HB2.out)))
         clear c0 c1 c2 d0 d1 d2 d3 d4 d5 d6 d7 d8 d9 d10 d11 d12 d13 d14 d15 d16 d17 hpw2 hxw S2 HB2 K3;have x1:=S3.out.bp;have x2:=S3.out.bu;have bx:=HB3.out;have hpw2:=x1.lt;have hxw:=bx.lt;rw [HUS.out] at x2;simp only [UsL.cells] at x2;obtain ⟨c0,c1,c2⟩:=x2.c3;simp at c0 c1 c2;have d0:=bx.cell 0;have d1:=bx.cell 1;have d2:=bx.cell 2;have d3:=bx.cell 3;have d4:=bx.cell 4;have d5:=bx.cell 5;have d6:=bx.cell 6;have d7:=bx.cell 7;have d8:=bx.cell 8;have d9:=bx.cell 9;have d10:=bx.cell 10;have d11:=bx.cell 11;have d12:=bx.cell 12;have d13:=bx.cell 13;have d14:=bx.cell 14;have d15:=bx.cell 15;have d16:=bx.cell 16;have d17:=bx.cell 17;simp at d0 d1 d2 d3 d4 d5 d6 d7 d8 d9 d10 d11 d12 d13 d14 d15 d16 d17;clear x1 x2 bx;have HXH:Hid (xs=(pj++evO x.cond)++.ch x.c :: (ZbN x.dst++tl)):=Lh (by rw [HXG.out]; simp)
         go_upto_region 24 with (first
          | ((with_reducible refine (HCH.out _ _ _ _ HXH.out S3.out).mono ?_); rintro e1 w4 ⟨rfl,S4,K4⟩
             have HB4:=Lh (Zb8 K4.out (Nat.not_lt.2 hSP) HB3.out)))
         clear c0 c1 c2 d0 d1 d2 d3 d4 d5 d6 d7 d8 d9 d10 d11 d12 d13 d14 d15 d16 d17 hpw2 hxw S3 HB3 K4;have x1:=S4.out.bp;have x2:=S4.out.bu;have bx:=HB4.out;have hpw2:=x1.lt;have hxw:=bx.lt;rw [HUS.out] at x2;simp only [UsL.cells] at x2;obtain ⟨c0,c1,c2⟩:=x2.c3;simp at c0 c1 c2;have d0:=bx.cell 0;have d1:=bx.cell 1;have d2:=bx.cell 2;have d3:=bx.cell 3;have d4:=bx.cell 4;have d5:=bx.cell 5;have d6:=bx.cell 6;have d7:=bx.cell 7;have d8:=bx.cell 8;have d9:=bx.cell 9;have d10:=bx.cell 10;have d11:=bx.cell 11;have d12:=bx.cell 12;have d13:=bx.cell 13;have d14:=bx.cell 14;have d15:=bx.cell 15;have d16:=bx.cell 16;have d17:=bx.cell 17;simp at d0 d1 d2 d3 d4 d5 d6 d7 d8 d9 d10 d11 d12 d13 d14 d15 d16 d17;clear x1 x2 bx;have HXD:Hid (xs=(pj++evO x.cond++[.ch x.c])++(ZbN x.dst++tl)):=Lh (by rw [HXG.out]; simp)
         go_wp2_with (first
          | (go_at_call 45; (with_reducible refine (HCD.out _ _ HXD.out S4.out).mono ?_); rintro e1 w5 ⟨rfl,S5,K5⟩))
         go_roundw
         case rel=>exact ⟨j+1,by omega,by go_num,Lh (by rw [HNX.out,HEG.out]; exact S5.out)⟩
         case measure=>simp [intOf]; omega
        ·have z3:((x.kind:Int) == 3)=false:=by simp; omega
         by_cases g4:x.kind=4
         ·have z4:((x.kind:Int) == 4)=true:=by simp [g4]
          have HXG:Hid (xs=pj++(evO x.cond++(evO x.time++tl))):=Lh (by rw [HXL.out]; unfold evG; rw [if_neg g3,if_pos g4]; simp);have HEG:Hid (pj++evG x=(pj++evO x.cond)++evO x.time):=Lh (by unfold evG; rw [if_neg g3,if_pos g4]; simp);clear g3 g4;have x1:=S2.out.bp;have x2:=S2.out.bu;have bx:=HB2.out;have hpw2:=x1.lt;have hxw:=bx.lt;rw [HUS.out] at x2;simp only [UsL.cells] at x2;obtain ⟨c0,c1,c2⟩:=x2.c3;simp at c0 c1 c2;have d0:=bx.cell 0;have d1:=bx.cell 1;have d2:=bx.cell 2;have d3:=bx.cell 3;have d4:=bx.cell 4;have d5:=bx.cell 5;have d6:=bx.cell 6;have d7:=bx.cell 7;have d8:=bx.cell 8;have d9:=bx.cell 9;have d10:=bx.cell 10;have d11:=bx.cell 11;have d12:=bx.cell 12;have d13:=bx.cell 13;have d14:=bx.cell 14;have d15:=bx.cell 15;have d16:=bx.cell 16;have d17:=bx.cell 17;simp at d0 d1 d2 d3 d4 d5 d6 d7 d8 d9 d10 d11 d12 d13 d14 d15 d16 d17;clear x1 x2 bx
          go_upto_region 21 with (first
           | (go_at_call 46; (with_reducible refine (HCC.out _ _ HXG.out S2.out).mono ?_); rintro e1 w3 ⟨rfl,S3,K3⟩
              have HB3:=Lh (Zb8 K3.out (Nat.not_lt.2 hSP) HB2.out)))
          clear c0 c1 c2 d0 d1 d2 d3 d4 d5 d6 d7 d8 d9 d10 d11 d12 d13 d14 d15 d16 d17 hpw2 hxw S2 HB2 K3;have x1:=S3.out.bp;have x2:=S3.out.bu;have bx:=HB3.out;have hpw2:=x1.lt;have hxw:=bx.lt;rw [HUS.out] at x2;simp only [UsL.cells] at x2;obtain ⟨c0,c1,c2⟩:=x2.c3;simp at c0 c1 c2;have d0:=bx.cell 0;have d1:=bx.cell 1;have d2:=bx.cell 2;have d3:=bx.cell 3;have d4:=bx.cell 4;have d5:=bx.cell 5;have d6:=bx.cell 6;have d7:=bx.cell 7;have d8:=bx.cell 8;have d9:=bx.cell 9;have d10:=bx.cell 10;have d11:=bx.cell 11;have d12:=bx.cell 12;have d13:=bx.cell 13;have d14:=bx.cell 14;have d15:=bx.cell 15;have d16:=bx.cell 16;have d17:=bx.cell 17;simp at d0 d1 d2 d3 d4 d5 d6 d7 d8 d9 d10 d11 d12 d13 d14 d15 d16 d17;clear x1 x2 bx;have HXH:Hid (xs=(pj++evO x.cond)++(evO x.time++tl)):=Lh (by rw [HXG.out]; simp)
          go_wp2_with (first
           | (go_at_call 46; (with_reducible refine (HCT.out _ _ HXH.out S3.out).mono ?_); rintro e1 w4 ⟨rfl,S4,K4⟩))
          go_roundw
          case rel=>exact ⟨j+1,by omega,by go_num,Lh (by rw [HNX.out,HEG.out]; exact S4.out)⟩
          case measure=>simp [intOf]; omega
         ·have z4:((x.kind:Int) == 4)=false:=by simp; omega
          have HXG:Hid (xs=pj++(evO x.cond++tl)):=Lh (by rw [HXL.out]; unfold evG; rw [if_neg g3,if_neg g4]; simp);have HEG:Hid (pj++evG x=pj++evO x.cond):=Lh (by unfold evG; rw [if_neg g3,if_neg g4]; simp);clear g3 g4;have x1:=S2.out.bp;have x2:=S2.out.bu;have bx:=HB2.out;have hpw2:=x1.lt;have hxw:=bx.lt;rw [HUS.out] at x2;simp only [UsL.cells] at x2;obtain ⟨c0,c1,c2⟩:=x2.c3;simp at c0 c1 c2;have d0:=bx.cell 0;have d1:=bx.cell 1;have d2:=bx.cell 2;have d3:=bx.cell 3;have d4:=bx.cell 4;have d5:=bx.cell 5;have d6:=bx.cell 6;have d7:=bx.cell 7;have d8:=bx.cell 8;have d9:=bx.cell 9;have d10:=bx.cell 10;have d11:=bx.cell 11;have d12:=bx.cell 12;have d13:=bx.cell 13;have d14:=bx.cell 14;have d15:=bx.cell 15;have d16:=bx.cell 16;have d17:=bx.cell 17;simp at d0 d1 d2 d3 d4 d5 d6 d7 d8 d9 d10 d11 d12 d13 d14 d15 d16 d17;clear x1 x2 bx
          go_upto_region 21 with (first
           | (go_at_call 46; (with_reducible refine (HCC.out _ _ HXG.out S2.out).mono ?_); rintro e1 w3 ⟨rfl,S3,K3⟩
              have HB3:=Lh (Zb8 K3.out (Nat.not_lt.2 hSP) HB2.out)))
          clear c0 c1 c2 d0 d1 d2 d3 d4 d5 d6 d7 d8 d9 d10 d11 d12 d13 d14 d15 d16 d17 hpw2 hxw S2 HB2 K3;have x1:=S3.out.bp;have x2:=S3.out.bu;have bx:=HB3.out;have hpw2:=x1.lt;have hxw:=bx.lt;rw [HUS.out] at x2;simp only [UsL.cells] at x2;obtain ⟨c0,c1,c2⟩:=x2.c3;simp at c0 c1 c2;have d0:=bx.cell 0;have d1:=bx.cell 1;have d2:=bx.cell 2;have d3:=bx.cell 3;have d4:=bx.cell 4;have d5:=bx.cell 5;have d6:=bx.cell 6;have d7:=bx.cell 7;have d8:=bx.cell 8;have d9:=bx.cell 9;have d10:=bx.cell 10;have d11:=bx.cell 11;have d12:=bx.cell 12;have d13:=bx.cell 13;have d14:=bx.cell 14;have d15:=bx.cell 15;have d16:=bx.cell 16;have d17:=bx.cell 17;simp at d0 d1 d2 d3 d4 d5 d6 d7 d8 d9 d10 d11 d12 d13 d14 d15 d16 d17;clear x1 x2 bx
          go_wp2_with fail
          go_roundw
          case rel=>exact ⟨j+1,by omega,by go_num,Lh (by rw [HNX.out,HEG.out]; exact S3.out)⟩
          case measure=>simp [intOf]; omega
       ·have hltI:¬ (j:Int) < ng:=by omega
        obtain rfl:ng=j:=by omega
        have htk:p.g.take ng=p.g:=List.take_of_length_le (by rw [HNG.out]; omega);have S2:Hid (UsS us D S0 I W 31 #[.int .u8 p.kind,.int .i64 p.c,.int .i64 p.v,.int .u8 p.item,.slice PT nt p.ct,.slice PE ne p.ce,.slice PG ng p.cg,.slice p.Al p.l.length p.cl] (pre++own++p.tos.flatMap ZbN++p.e.flatMap evO++p.g.flatMap evG) wr):=Lh (by have:=S.out; rw [htk] at this; exact this);clear htk S c0 c1 c2
        go_wp2_with fail
        go_end0
        exact ⟨rfl,by have:=S2.out.i; simp only [List.append_assoc] at this ⊢; exact this,S2.out.k⟩
end Go.Proofs.YtjndhfcfcedheaaGreatDoor
