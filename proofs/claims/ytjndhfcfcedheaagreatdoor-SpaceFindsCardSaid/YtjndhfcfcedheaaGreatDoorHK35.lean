/- Texts that belong together: WF. -/
import Derived.Test.YtjndhfcfcedheaaGreatDoorHK26
import Derived.Test.YtjndhfcfcedheaaGreatDoorHK34
import Derived.BigRegion
set_option linter.unusedVariables false
set_option linter.unusedSimpArgs false
set_option maxRecDepth 100000
set_option maxHeartbeats 16000000
namespace Go.Proofs.YtjndhfcfcedheaaGreatDoor
open Go.RowKit
section
theorem Za8.belowE {S0 bw:Nat} {s:PlR} {W W':World} {X:Nat→Prop} (h:Za8 S0 bw s W) (hb:Zl W.heap.size X W W') (hx:∀ k,X k→k≠bw∧¬ ZcE s k):Za8 S0 bw s W':=by
 have hr:∀ k,ZcE s k→W'.heap[k]? = W.heap[k]?:=fun k hk=>hb.block k (h.row_lt hk).2 fun hX=>(hx k hX).2 hk;refine ⟨h.lo,Nat.le_trans h.hi hb.size,(hb.block bw h.blk.lt fun hX=>(hx bw hX).1 rfl).trans h.blk,Zp h.pr fun k hk=>hr k (.inl hk),Zp h.us fun k hk=>hr k (.inr (.inl hk)),⟨Zp h.gp.1 fun k hk=>hr k (.inr (.inr (.inl hk))),h.gp.2.1,fun i g hg=>?_⟩⟩;obtain ⟨v,q1,q2,q3⟩:=h.gp.2.2 i g hg;exact ⟨v,q1,Zp q2 fun k hk=>hr k (.inr (.inr (.inr ⟨v,List.mem_of_getElem? q1,hk⟩))),q3⟩
def Zoy (v1 v3:Value) (k:Nat):Prop:=v1.ownBlock=some k∨v3.ownBlock=some k
structure LayR (k:KK) (B S0 bw base nv nc n:Nat) (A1 A2 A3 A4:Option Addr) (c1 c2 c3 c4:Nat) (s:PlR) (vin cin:List Int) (a1 a3:List Int) (W:World):Prop where
 hin:k.In W B
 hB:B≤base
 hbs:base≤W.heap.size
 hp:Za8 S0 bw s W
 hui:∀ u∈s.pl.uses,u.1.In W B
 huo:∀ u∈s.pl.uses,Ze2 u.1∧(ZL u.1).length≤48
 hul:s.pl.uses.length≤1000000
 hn:s.pl.par.length=n
 hn1:n≤4096
 hpar:∀ i,i < n→Zy (s.pl.par.getD i (-1))
 r1:W.ownsRow base 3 1 (.slice A1 nv c1) nv (ZO a1)
 r2:W.ownsRow base 3 1 (.slice A2 nv c2) nv (ZO vin)
 r3:W.ownsRow base 3 1 (.slice A3 nc c3) nc (ZO a3)
 r4:W.ownsRow base 3 1 (.slice A4 nc c4) nc (ZO cin)
 d2:∀ k,Zoy (.slice A1 nv c1) (.slice A3 nc c3) k→(Value.slice A2 nv c2).ownBlock≠some k∧(Value.slice A4 nc c4).ownBlock≠some k∧k≠bw∧¬ ZcE s k
 d1:∀ k,(Value.slice A1 nv c1).ownBlock=some k→(Value.slice A3 nc c3).ownBlock≠some k
 lv:vin.length=nv
 kv:k.vars.length=nv
 lc:cin.length=nc
 kc:k.chans.length=nc
 rv:InR n vin
 rc:InR n cin
 nv:nv≤256
 nc:nc≤64
 dims:∀ x∈k.vars,0≤x.dim∧x.dim≤64
structure LyR (W:World) (base nv nc:Nat) (v1 v3:Value) (kc sc:Array Value) (a1 a3:List Int) (wr:World):Prop where
 bel:Zl W.heap.size (Zoy v1 v3) W wr
 kb:Blk wr W.heap.size 34 kc
 sb:Blk wr (W.heap.size+1) 38 sc
 fb:Blk wr (W.heap.size+2) 74 #[.int .i64 0,.int .i64 0,.int .i64 0,.int .i64 0,.int .i64 0]
 r1:wr.ownsRow base 3 1 v1 nv (ZO a1)
 r3:wr.ownsRow base 3 1 v3 nc (ZO a3)
theorem Zl.drew24 {B:Nat} {X:Nat→Prop} {a b:World} (h:Zl B X a b):Zl B X a b.drew:=⟨h.os,h.tape,h.output,h.size,h.block⟩
theorem Zek (l:List Int) (i:Nat) (v:Int):(ZO l).set i (.int .i64 v)=ZO (l.set i v):=by
 unfold ZO;rw [List.map_set]
section
variable {W wr:World} {base nv nc:Nat} {v1 v3:Value} {kc sc:Array Value} {a1 a3:List Int}
theorem LyR.set1 (h:LyR W base nv nc v1 v3 kc sc a1 a3 wr) (hd:∀ k,v1.ownBlock=some k→v3.ownBlock≠some k) {g:Nat} (hg:v1.ownBlock=some g) (hlt:g < W.heap.size) (i:Nat) (u:Int):LyR W base nv nc v1 v3 kc sc (a1.set i u) a3 (wr.setCell ⟨g,i,none⟩ (.int .i64 u)) :=
 ⟨h.bel.store _ (.inl (.inl hg)),Zk h.kb (by show W.heap.size≠g; omega),Zk h.sb (by show W.heap.size+1≠g; omega),Zk h.fb (by show W.heap.size+2≠g; omega),
  by rw [← Zek]; exact Zc7 h.r1 hg i _,Zp h.r3 fun k hk=>Below.heap_setCell wr _ _ k fun e=>hd g hg (by rw [hk,e])⟩
theorem LyR.set3 (h:LyR W base nv nc v1 v3 kc sc a1 a3 wr) (hd:∀ k,v1.ownBlock=some k→v3.ownBlock≠some k) {g:Nat} (hg:v3.ownBlock=some g) (hlt:g < W.heap.size) (i:Nat) (u:Int):LyR W base nv nc v1 v3 kc sc a1 (a3.set i u) (wr.setCell ⟨g,i,none⟩ (.int .i64 u)) :=
 ⟨h.bel.store _ (.inl (.inr hg)),Zk h.kb (by show W.heap.size≠g; omega),Zk h.sb (by show W.heap.size+1≠g; omega),Zk h.fb (by show W.heap.size+2≠g; omega),
  Zp h.r1 fun k hk=>Below.heap_setCell wr _ _ k fun e=>hd k hk (by rw [hg,e]),by rw [← Zek]; exact Zc7 h.r3 hg i _⟩
end
def RetLy (base nv nc:Nat) (v1 v3:Value) (a1 a3:List Int) (fr:FrL) (W:World) (e:Ending) (W':World):Prop :=
 e = .returned (.agg #[.int .i64 fr.parent,.int .i64 fr.down,.int .i64 fr.above,.int .i64 fr.below,.int .i64 fr.temp])∧Hid (Zl W.heap.size (Zoy v1 v3) W W')∧Hid (W'.ownsRow base 3 1 v1 nv (ZO a1))∧Hid (W'.ownsRow base 3 1 v3 nc (ZO a3))
def Zli (s:PlR) (vin cin:List Int) (vs:List ZZ) (nc f:Nat):FrL:=⟨s.pl.par.getD f (-1),0,((ZaA vin cin vs nc f+ZJ Zf s.pl.uses f:Nat):Int),5,(ZaA vin cin vs nc f:Nat)⟩
theorem Zoj {vs:List ZZ} (h:∀ x∈vs,0≤x.dim∧x.dim≤64) (vin:List Int) (f:Int) {i:Nat} (hi:i≤256):ZaN vin (Zz vs) f i≤16384:=by
 have:=ZbF vin (Zz vs) 64 (Zb3 h) f i
 omega
theorem Zok (cin:List Int) (nc:Nat) (f:Int) {i:Nat} (hi:i≤64):ZaN cin (List.replicate nc 1) f i≤64:=by
 have:=ZbF cin (List.replicate nc 1) 1 (ZdV nc) f i
 omega
theorem rLay (k:KK) (B S0 bw base nv nc n:Nat) (A1 A2 A3 A4:Option Addr) (c1 c2 c3 c4:Nat) (s:PlR) (vin cin:List Int) (v0:Value) (f:Nat) (hf:f < n) (W:World)
  (h:LayR k B S0 bw base nv nc n A1 A2 A3 A4 c1 c2 c3 c4 s vin cin (ZcM vin (Zz k.vars) (fun _=>2) f 0) (ZcM cin (List.replicate nc 1) (fun g=>2+ZaN vin (Zz k.vars) g nv) f 0) W) :
  Calls Tryz.prog 29 #[.agg k.flat,.agg #[v0,.slice A1 nv c1,.slice A2 nv c2,.slice A3 nc c3,.slice A4 nc c4],.pointer (some ⟨bw,0,none⟩),.int .i64 f] W
   (RetLy base nv nc (.slice A1 nv c1) (.slice A3 nc c3) (ZcM vin (Zz k.vars) (fun _=>2) (f+1) 0) (ZcM cin (List.replicate nc 1) (fun g=>2+ZaN vin (Zz k.vars) g nv) (f+1) 0) (Zli s vin cin k.vars nc f) W):=by
 have HL:=Lh h
 obtain ⟨W0,hW0⟩:∃ W0,((W.alloc (.cells k.flat 34)).alloc (.cells #[v0,.slice A1 nv c1,.slice A2 nv c2,.slice A3 nc c3,.slice A4 nc c4] 38)).alloc (.cells #[.int .i64 0,.int .i64 0,.int .i64 0,.int .i64 0,.int .i64 0] 74)=W0:=⟨_,rfl⟩
 have S:Hid (LyR W base nv nc (.slice A1 nv c1) (.slice A3 nc c3) k.flat #[v0,.slice A1 nv c1,.slice A2 nv c2,.slice A3 nc c3,.slice A4 nc c4] (ZcM vin (Zz k.vars) (fun _=>2) f 0) (ZcM cin (List.replicate nc 1) (fun g=>2+ZaN vin (Zz k.vars) g nv) f 0) W0):=Lh (by
  have hb:Below W.heap.size W W0:=by rw [← hW0]; exact (((Below.refl _ _).alloc (Nat.le_refl _) _).alloc (by simp) _).alloc (by simp; omega) _
  refine ⟨Zl.of hb,?_,?_,?_,h.r1.below hb,h.r3.below hb⟩
  ·rw [← hW0]; exact ((Blk.new _ _ _).alloc _).alloc _
  ·rw [← hW0];have:=Blk.new (W.alloc (.cells k.flat 34)) 38 #[v0,.slice A1 nv c1,.slice A2 nv c2,.slice A3 nc c3,.slice A4 nc c4];rw [World.size_alloc] at this;exact this.alloc _
  ·rw [← hW0];have:=Blk.new ((W.alloc (.cells k.flat 34)).alloc (.cells #[v0,.slice A1 nv c1,.slice A2 nv c2,.slice A3 nc c3,.slice A4 nc c4] 38)) 74 #[.int .i64 0,.int .i64 0,.int .i64 0,.int .i64 0,.int .i64 0];rw [World.size_alloc,World.size_alloc] at this
   exact this)
 have hkv:=h.kv;have hkc:=h.kc;have hnv:=h.nv;have hnc:=h.nc;have hn1:=h.hn1;have HKV:=Lh hkv;have HKC:=Lh hkc
 obtain ⟨sz,hsz⟩:∃ z,Zz k.vars=z:=⟨_,rfl⟩
 have HSZ:=Lh hsz;rw [hsz] at S ⊢;clear h hsz;simp only [KK.flat,hkv,hkc] at hW0 S ⊢
 have hsv:∀ i,i≤256→ZaN vin sz (f:Int) i≤16384:=fun i hi=>by rw [← HSZ.out]; exact Zoj HL.out.dims vin _ hi
 have hsc:∀ i,i≤64→ZaN cin (List.replicate nc 1) (f:Int) i≤64:=fun i hi=>Zok cin nc _ hi;have HSV:=Lh hsv;have HSC:=Lh hsc;clear hkv hkc hsv hsc;go_enter Tryz.func29,Tryz.ntmps29
 go_upto_region 2 with fail
 clear hW0
 go_wp2_with fail
 go_loopw [9,10] (fun a i wr=>∃ j:Nat,j≤nv∧a = .int .i64 (2+ZaN vin sz (f:Int) j:Nat)∧i = .int .i64 j∧Hid (LyR W base nv nc (.slice A1 nv c1) (.slice A3 nc c3) #[.slice k.Av nv k.cv,.slice k.Ac nc k.cc,.int .u8 k.root.kind,.int .i64 k.root.c,.int .i64 k.root.v,.int .u8 k.root.item,.slice k.root.At k.root.tos.length k.root.ct,.slice k.root.Ae k.root.e.length k.root.ce,.slice k.root.Ag k.root.g.length k.root.cg,.slice k.root.Al k.root.l.length k.root.cl,.slice k.Ap k.procs.length k.cp] #[v0,.slice A1 nv c1,.slice A2 nv c2,.slice A3 nc c3,.slice A4 nc c4] (ZcM vin sz (fun _=>2) f j) (ZcM cin (List.replicate nc 1) (fun g=>2+ZaN vin sz g nv) f 0) wr)) (fun _ i _=>nv - (intOf i).toNat)
 case atStart=>exact ⟨0,Nat.zero_le _,rfl,rfl,S⟩
 case round =>
  clear S;obtain ⟨j,hj,rfl,rfl,S⟩:=hrel
  obtain ⟨at_,hat⟩:∃ q,2+ZaN vin sz (f:Int) j=q:=⟨_,rfl⟩
  have HAT:=Lh hat
  have hatb:at_≤16386:=by have:=HSV.out j (by omega); omega
  rw [hat];clear hat;have kb:=S.out.kb;have sb:=S.out.sb;have hlk:=kb.lt;have hls:=sb.lt;obtain ⟨e0,e1,e2,e3,e4,e5,e6,e7,e8,e9,e10⟩:=kb.c11;simp at e0 e1 e2 e3 e4 e5 e6 e7 e8 e9 e10;obtain ⟨y0,y1,y2,y3,y4⟩:=sb.c5;simp at y0 y1 y2 y3 y4;clear kb sb
  by_cases hlt:j < nv
  ·have hltI:(j:Int) < nv:=by omega
   have hr2:wr.ownsRow base 3 1 (.slice A2 nv c2) nv (ZO vin):=Zp HL.out.r2 fun q hq=>S.out.bel.block q (HL.out.r2.lt q hq).2 fun hX=>(HL.out.d2 q hX).1 hq;obtain ⟨g2,cap2,hv2,hb2,hlt2⟩:=Z2 hr2 (by omega);obtain ⟨g1,cap1,hv1,hb1,hlt1⟩:=Z2 HL.out.r1 (by omega)
   have hA2:A2=some ⟨g2,0,none⟩:=by injection hv2
   have hA1:A1=some ⟨g1,0,none⟩:=by injection hv1
   subst hA1 hA2
   obtain ⟨fv,hfv⟩:∃ fv,vin[j]? = some fv:=⟨_,List.getElem?_eq_getElem (by rw [HL.out.lv]; exact hlt)⟩
   have x2:=World.ownsRow.cellAt hr2 j (by omega);rw [Za7 hfv] at x2
   have hgd:vin.getD j (-1)=fv:=by rw [List.getD_eq_getElem?_getD,hfv]; rfl
   have HGD:=Lh hgd;clear hr2 hv2 hv1 hfv hgd
   by_cases hfe:fv=f
   ·have yf:(fv == (f:Int))=true:=by simp [hfe]
    have HSET:Hid ((ZcM vin sz (fun _=>2) f j).set j (at_:Int)=ZcM vin sz (fun _=>2) f (j+1)):=Lh (by
     have:=ZiE (sz:=sz) (start:=fun _=>2) (HGD.out.trans hfe) (by omega)
     rw [← HAT.out]; exact this)
    obtain ⟨x,hx⟩:∃ x,k.vars[j]? = some x:=⟨_,List.getElem?_eq_getElem (by rw [HKV.out]; exact hlt)⟩
    have hdm:=HL.out.dims x (List.mem_of_getElem? hx);have hzz:=Zho hx;rw [HSZ.out] at hzz
    have hnx:((2+ZaN vin sz (f:Int) (j+1):Nat):Int)=at_+max 1 x.dim:=by rw [Zkw (HGD.out.trans hfe),← Nat.add_assoc,HAT.out,Int.natCast_add,hzz]
    have HNX:=Lh hnx;have HX:=Lh hx;obtain ⟨cur1,hq1⟩:=ZN S.out.r1 (k:=g1) rfl;have z1:=hq1.frozen j;have l1:=hq1.lt;have x1:=World.ownsRow.cellAt S.out.r1 j (by omega)
    obtain ⟨dv,hdv⟩:∃ dv,(ZcM vin sz (fun _=>2) f j)[j]? = some dv:=⟨_,List.getElem?_eq_getElem (by rw [ZiF,HL.out.lv]; exact hlt)⟩
    rw [Za7 hdv] at x1;clear hfe hzz hnx hx hq1 hdv
    go_upto_region 7 with fail
    have S1:=Lh (S.out.set1 HL.out.d1 rfl hlt1 j at_);rw [HSET.out] at S1;generalize wr.setCell _ _=w2 at *;clear S HSET e0 e1 e2 e3 e4 e5 e6 e7 e8 e9 e10 y0 y1 y2 y3 y4 x1 x2 z1 l1 hlk hls;have kb:=S1.out.kb;have e0:=kb.cell 0;simp at e0;have hlk:=kb.lt
    have hbel:Below B W w2:=S1.out.bel.below (Nat.le_trans HL.out.hB (by have:=HL.out.r1.lt g1 rfl; omega)) fun q hq=>by
     rcases hq with hq | hq
     ·exact Nat.le_trans HL.out.hB (HL.out.r1.lt q hq).1
     ·exact Nat.le_trans HL.out.hB (HL.out.r3.lt q hq).1
    obtain ⟨vb,vo,hA,hvb,hcs⟩:=Zmg (HL.out.hin.below hbel).1.2.1 rfl (by rw [HKV.out]; omega);have k1:=(hcs j x HX.out).2
    have hvbw:vb < w2.heap.size:=by have:=HL.out.r1.lt g1 rfl; have:=HL.out.hB; have:=S1.out.bel.size; omega
    rw [hA] at e0;clear kb hbel hA hcs HX;generalize x.dim=dm at *
    go_wp2_with fail
    go_roundw
    case rel=>exact ⟨j+1,by omega,by rw [HNX.out]; try go_num,by go_num,S1⟩
    case measure=>simp [intOf]; omega
   ·have yf:(fv == (f:Int))=false:=by simp [hfe]
    have HSET:Hid (ZcM vin sz (fun _=>2) f j=ZcM vin sz (fun _=>2) f (j+1)):=Lh (Zhf (by rw [HGD.out]; exact hfe));have HNX:Hid (2+ZaN vin sz (f:Int) (j+1)=at_):=Lh (by rw [ZiO (by rw [HGD.out]; exact hfe),HAT.out]);rw [HSET.out] at S;clear hfe
    go_wp2_with fail
    go_roundw
    case rel=>exact ⟨j+1,by omega,by rw [HNX.out],by go_num,S⟩
    case measure=>simp [intOf]; omega
  ·have hltI:¬ (j:Int) < nv:=by omega
   obtain rfl:nv=j:=by omega
   have hsx:ZcM vin sz (fun _=>2) f nv=ZcM vin sz (fun _=>2) (f+1) 0:=by have:=Zhg vin sz (fun _=>2) (f:=(f:Int)) (by omega); rw [HL.out.lv] at this; exact this
   rw [hsx] at S;clear hsx
   go_wp2_with fail
   go_loopw [9,11] (fun a i wr=>∃ j:Nat,j≤nc∧a = .int .i64 (at_+ZaN cin (List.replicate nc 1) (f:Int) j:Nat)∧i = .int .i64 j∧Hid (LyR W base nv nc (.slice A1 nv c1) (.slice A3 nc c3) #[.slice k.Av nv k.cv,.slice k.Ac nc k.cc,.int .u8 k.root.kind,.int .i64 k.root.c,.int .i64 k.root.v,.int .u8 k.root.item,.slice k.root.At k.root.tos.length k.root.ct,.slice k.root.Ae k.root.e.length k.root.ce,.slice k.root.Ag k.root.g.length k.root.cg,.slice k.root.Al k.root.l.length k.root.cl,.slice k.Ap k.procs.length k.cp] #[v0,.slice A1 nv c1,.slice A2 nv c2,.slice A3 nc c3,.slice A4 nc c4] (ZcM vin sz (fun _=>2) (f+1) 0) (ZcM cin (List.replicate nc 1) (fun g=>2+ZaN vin sz g nv) f j) wr)) (fun _ i _=>nc - (intOf i).toNat)
   case atStart=>exact ⟨0,Nat.zero_le _,rfl,rfl,S⟩
   case round =>
    clear S e0 e1 e2 e3 e4 e5 e6 e7 e8 e9 e10 y0 y1 y2 y3 y4 hlk hls;obtain ⟨j,hj,rfl,rfl,S⟩:=hrel
    obtain ⟨ac,hac⟩:∃ q,at_+ZaN cin (List.replicate nc 1) (f:Int) j=q:=⟨_,rfl⟩
    have HAC:=Lh hac
    have hacb:ac≤16450:=by have:=HSC.out j (by omega); omega
    rw [hac];clear hac;have kb:=S.out.kb;have sb:=S.out.sb;have hlk:=kb.lt;have hls:=sb.lt;obtain ⟨e0,e1,e2,e3,e4,e5,e6,e7,e8,e9,e10⟩:=kb.c11;simp at e0 e1 e2 e3 e4 e5 e6 e7 e8 e9 e10;obtain ⟨y0,y1,y2,y3,y4⟩:=sb.c5;simp at y0 y1 y2 y3 y4;clear kb sb
    by_cases hlt:j < nc
    ·have hltI:(j:Int) < nc:=by omega
     have hr4:wr.ownsRow base 3 1 (.slice A4 nc c4) nc (ZO cin):=Zp HL.out.r4 fun q hq=>S.out.bel.block q (HL.out.r4.lt q hq).2 fun hX=>(HL.out.d2 q hX).2.1 hq;obtain ⟨ga,cap2,hv2,hb2,hlt2⟩:=Z2 hr4 (by omega);obtain ⟨gb,cap1,hv1,hb1,hlt1⟩:=Z2 HL.out.r3 (by omega)
     have hA2:A4=some ⟨ga,0,none⟩:=by injection hv2
     have hA1:A3=some ⟨gb,0,none⟩:=by injection hv1
     subst hA1 hA2
     obtain ⟨fv,hfv⟩:∃ fv,cin[j]? = some fv:=⟨_,List.getElem?_eq_getElem (by rw [HL.out.lc]; exact hlt)⟩
     have x2:=World.ownsRow.cellAt hr4 j (by omega);rw [Za7 hfv] at x2
     have hgd:cin.getD j (-1)=fv:=by rw [List.getD_eq_getElem?_getD,hfv]; rfl
     have HGD:=Lh hgd;clear hr4 hv2 hv1 hfv hgd
     by_cases hfe:fv=f
     ·have yf:(fv == (f:Int))=true:=by simp [hfe]
      have HSET:Hid ((ZcM cin (List.replicate nc 1) (fun g=>2+ZaN vin sz g nv) f j).set j (ac:Int)=ZcM cin (List.replicate nc 1) (fun g=>2+ZaN vin sz g nv) f (j+1)):=Lh (by
       have:=ZiE (sz:=List.replicate nc 1) (start:=fun g=>2+ZaN vin sz g nv) (HGD.out.trans hfe) (by omega)
       rw [← HAC.out,← HAT.out]; exact this)
      have HNX:Hid (at_+ZaN cin (List.replicate nc 1) (f:Int) (j+1)=ac+1):=Lh (by rw [Zkw (HGD.out.trans hfe),← Nat.add_assoc,HAC.out,Zlb hlt]);obtain ⟨cur1,hq1⟩:=ZN S.out.r3 (k:=gb) rfl;have z1:=hq1.frozen j;have l1:=hq1.lt;have x1:=World.ownsRow.cellAt S.out.r3 j (by omega)
      obtain ⟨dv,hdv⟩:∃ dv,(ZcM cin (List.replicate nc 1) (fun g=>2+ZaN vin sz g nv) f j)[j]? = some dv:=⟨_,List.getElem?_eq_getElem (by rw [ZiF,HL.out.lc]; exact hlt)⟩
      rw [Za7 hdv] at x1;clear hfe hq1 hdv
      go_upto_region 13 with fail
      have S1:=Lh (S.out.set3 HL.out.d1 rfl hlt1 j ac);rw [HSET.out] at S1;generalize wr.setCell _ _=w2 at *;clear S HSET e0 e1 e2 e3 e4 e5 e6 e7 e8 e9 e10 y0 y1 y2 y3 y4 x1 x2 z1 l1 hlk hls
      go_wp2_with fail
      go_roundw
      case rel=>exact ⟨j+1,by omega,by rw [HNX.out]; try go_num,by go_num,S1⟩
      case measure=>simp [intOf]; omega
     ·have yf:(fv == (f:Int))=false:=by simp [hfe]
      have HSET:Hid (ZcM cin (List.replicate nc 1) (fun g=>2+ZaN vin sz g nv) f j=ZcM cin (List.replicate nc 1) (fun g=>2+ZaN vin sz g nv) f (j+1)):=Lh (Zhf (by rw [HGD.out]; exact hfe));have HNX:Hid (at_+ZaN cin (List.replicate nc 1) (f:Int) (j+1)=ac):=Lh (by rw [ZiO (by rw [HGD.out]; exact hfe),HAC.out]);rw [HSET.out] at S;clear hfe
      go_wp2_with fail
      go_roundw
      case rel=>exact ⟨j+1,by omega,by rw [HNX.out],by go_num,S⟩
      case measure=>simp [intOf]; omega
    ·have hltI:¬ (j:Int) < nc:=by omega
     obtain rfl:nc=j:=by omega
     have hsx:ZcM cin (List.replicate nc 1) (fun g=>2+ZaN vin sz g nv) f nc=ZcM cin (List.replicate nc 1) (fun g=>2+ZaN vin sz g nv) (f+1) 0:=by have:=Zhg cin (List.replicate nc 1) (fun g=>2+ZaN vin sz g nv) (f:=(f:Int)) (by omega); rw [HL.out.lc] at this; exact this
     rw [hsx] at S;clear hsx;have HPL:Hid (Za8 S0 bw s wr):=Lh (HL.out.hp.belowE S.out.bel fun q hq=>(HL.out.d2 q hq).2.2)
     obtain ⟨tp,htp⟩:∃ t,ZJ Zf s.pl.uses f=t:=⟨_,rfl⟩
     have HTP:=Lh htp
     have htpb:tp≤12289:=by
      rw [← htp]
      exact Zgp fun u hu=>by
       have h1:=HL.out.huo u hu;rw [← Zex h1.1,← List.take_length (l:=ZL u.1)];exact ZdM h1.2 _
     have HBW:Hid (Below B W wr∧B≤W.heap.size∧B≤wr.heap.size):=Lh (by
      have h1:=HL.out.hB;have h2:=HL.out.hbs;have h3:=S.out.bel.size;refine ⟨S.out.bel.below (by omega) fun q hq=>?_,by omega,by omega⟩
      rcases hq with hq | hq
      ·exact Nat.le_trans h1 (HL.out.r1.lt q hq).1
      ·exact Nat.le_trans h1 (HL.out.r3.lt q hq).1)
     have HT:Hid (∀ w',Below wr.heap.size wr w'→Calls Tryz.prog 53 #[.pointer (some ⟨bw,0,none⟩),.int .i64 f] w' (Zu (.int .i64 tp) w')):=Lh fun w' hw'=>by
      have:=ZmC (HPL.out.call hw') B (fun u hu=>((HL.out.hui u hu).below HBW.out.1).below (hw'.mono HBW.out.2.2)) (Nat.le_trans HBW.out.2.2 hw'.size) HL.out.huo HL.out.hul f (by omega);rw [htp] at this;exact this
     obtain ⟨Ap,cp,hvp⟩:=Zv HPL.out.pr;have hpr:=HPL.out.pr;have c0:=HPL.out.blk;have hnn:=HL.out.hn;rw [hvp,hnn] at hpr c0;obtain ⟨gp,capp,hvp2,hbp,hltp⟩:=Z2 hpr (by omega)
     have hAp:Ap=some ⟨gp,0,none⟩:=by injection hvp2
     subst hAp
     obtain ⟨pf,hpf⟩:∃ x,s.pl.par[f]? = some x:=⟨_,List.getElem?_eq_getElem (by omega)⟩
     have hgf:s.pl.par.getD f (-1)=pf:=by rw [List.getD_eq_getElem?_getD,hpf]; rfl
     have xp:=World.ownsRow.cellAt hpr f (by omega);rw [Za7 hpf] at xp;have HCE:Hid ((∃ cur,Blk wr gp 3 cur)∧Blk wr bw 79 #[.slice (some ⟨gp,0,none⟩) n cp,s.vu,s.vg]):=Lh ⟨ZN hpr rfl,c0⟩;have HGF:=Lh hgf;have HGW:Hid (gp < W.heap.size):=Lh (HL.out.hp.pr.lt gp (by rw [hvp]; rfl)).2;have hbw:=c0.lt;obtain ⟨p0,p1,p2⟩:=c0.c3;simp at p0 p1 p2
     have HFR:Hid (Zli s vin cin k.vars nc f=⟨pf,0,((ac+tp:Nat):Int),5,ac⟩):=Lh (by
      have e1:ZaA vin cin k.vars nc f=ac:=by unfold ZaA Zbo; rw [← HAC.out,← HAT.out,HSZ.out,HKV.out]
      unfold Zli
      rw [HGF.out,e1,HTP.out])
     have S1:=Lh (show Zl W.heap.size (Zoy (.slice A1 nv c1) (.slice A3 nc c3)) W wr.drew from S.out.bel.drew24);clear hvp hpr c0 hnn hvp2 hpf hgf htp
     go_upto_region 14 with fail
     refine Za5 ?_
     have hS0:wr.drew.cell? ⟨bw,0,none⟩=some (.slice (some ⟨gp,0,none⟩) n cp)∧wr.drew.cell? ⟨gp,f,none⟩=some (.int .i64 pf)∧gp < wr.drew.heap.size∧bw < wr.drew.heap.size:=⟨by simpa using p0,by simpa using xp,hltp,hbw⟩
     refine ZaV (fun w'=>w'.cell? ⟨bw,0,none⟩=some (.slice (some ⟨gp,0,none⟩) n cp)∧w'.cell? ⟨gp,f,none⟩=some (.int .i64 pf)∧gp < w'.heap.size∧bw < w'.heap.size) [0,1,2,3,4,5,6,7,8,9,10] 4 (listed:=#[true,true,true,true,true,true,true,true,true,true,true,false,false,false,false]) (by kernel_rfl) (by kernel_rfl) (by kernel_rfl) (by kernel_rfl) (by kernel_rfl) (fun _ _ d _ _ h=>by cases d <;> exact h) hS0 (fun R hR=>?_);simp only [List.filterMap_cons,List.filterMap_nil,List.getElem?_toArray,List.getElem?_cons_succ,List.getElem?_cons_zero]
     iterate 11
      refine Zc (v:=?_) rfl (fun w hSw=>?_) ?_
      rotate_left
      ·(try dsimp only at hSw); obtain ⟨hs1,hs2,hs3,hs4⟩:=hSw; go_simp; all_goals with_reducible rfl
      (try simp only [Act.put,qA,qB,qC])
     refine Zco (hR _ ?_);clear hR R;refine wpAnyH_ready (rs:=[11]) (by kernel_rfl) (by simp) ?_;refine .cons rfl (fun K hK=>?_) AllReadyH.nil
     go_simp
     (go_at_call 53; (with_reducible refine (HT.out _ (Below.refl _ _).drew).mono ?_))
     rintro e1 w2 ⟨rfl,k2⟩
     have KF:w2.cell? ⟨bw,0,none⟩=some (.slice (some ⟨gp,0,none⟩) n cp)∧w2.cell? ⟨gp,f,none⟩=some (.int .i64 pf)∧gp < w2.heap.size∧bw < w2.heap.size:=by
      have q1:=(HCE.out.2.drew.call k2).cell 0;obtain ⟨cur,q2⟩:=HCE.out.1;have q3:=q2.drew.call k2;have q4:=q2.cell f;have q5:=q3.cell f;rw [← q4,xp] at q5;exact ⟨by simpa using q1,q5,q3.lt,(HCE.out.2.drew.call k2).lt⟩
     have fb:=(S.out.fb.drew.call k2)
     have HFB:=Lh fb;have HPB:=Lh (HCE.out.2.drew.call k2);have HGB:Hid (∃ cur,Blk w2 gp 3 cur):=Lh (by obtain ⟨cur,q2⟩:=HCE.out.1; exact ⟨cur,q2.drew.call k2⟩);have l2:=fb.lt;obtain ⟨r0,r1,r2,r3,r4⟩:=fb.c5;simp at r0 r1 r2 r3 r4;obtain ⟨q0,q1,q2,q3,q4⟩:=fb.z5;have HK2:=Lh k2;clear fb k2;refine hK.out _ _ KF (fun hHeld=>?_);clear hK K
     (try simp only [Act.put,qA,qB,qC])
     refine wpAnyH_ready (rs:=[12]) (by kernel_rfl) (by simp) ?_;refine .cons rfl (fun K hK=>?_) AllReadyH.nil
     go_simp
     refine hK.out _ _ KF (fun hHeld2=>?_);clear hK K hHeld2
     (try simp only [Act.put,qA,qB,qC])
     refine wpAnyH_ready (rs:=[13]) (by kernel_rfl) (by simp) ?_;refine .cons rfl (fun K hK=>?_) AllReadyH.nil
     go_simp
     refine hK.out _ _ KF (fun hHeld2=>?_);clear hK K hHeld2
     (try simp only [Act.put,qA,qB,qC])
     refine wpAnyH_ready (rs:=[14]) (by kernel_rfl) (by simp) ?_;refine .cons rfl (fun K hK=>?_) AllReadyH.nil
     go_simp
     have hwr:IntKind.i64.wrap ((ac:Int)+(tp:Int))=((ac+tp:Nat):Int):=by rw [IntWalk.i64_in _ (by omega),Int.natCast_add]
     obtain ⟨w6,hw6⟩:∃ w6,(((((w2.setCell ⟨W.heap.size+1+1,0,none⟩ (.int .i64 pf)).setCell ⟨W.heap.size+1+1,1,none⟩ (.int .i64 0)).setCell ⟨W.heap.size+1+1,2,none⟩ (.int .i64 (IntKind.i64.wrap ((ac:Int)+(tp:Int))))).setCell ⟨W.heap.size+1+1,3,none⟩ (.int .i64 5)).setCell ⟨W.heap.size+1+1,4,none⟩ (.int .i64 ac))=w6:=⟨_,rfl⟩
     have hbwW:bw < W.heap.size:=HL.out.hp.blk.lt
     have hgpW:gp < W.heap.size:=by
      obtain ⟨cur,q2⟩:=HCE.out.1;exact HGW.out
     have hfar:∀ b,b≠W.heap.size+1+1→w6.heap[b]? = w2.heap[b]?:=fun b hb=>by
      rw [← hw6];rw [Below.heap_setCell _ _ _ b hb,Below.heap_setCell _ _ _ b hb,Below.heap_setCell _ _ _ b hb,Below.heap_setCell _ _ _ b hb,Below.heap_setCell _ _ _ b hb]
     have hF6:Blk w6 (W.heap.size+1+1) 74 #[.int .i64 pf,.int .i64 0,.int .i64 ((ac+tp:Nat):Int),.int .i64 5,.int .i64 ac]:=by
      rw [← hw6];have:=((((HFB.out.set_ 0 (.int .i64 pf)).set_ 1 (.int .i64 0)).set_ 2 (.int .i64 (IntKind.i64.wrap ((ac:Int)+(tp:Int))))).set_ 3 (.int .i64 5)).set_ 4 (.int .i64 ac);rw [hwr] at this ⊢
      simpa using this
     have hsz6:w6.heap.size=w2.heap.size:=by rw [← hw6]; simp
     have hfin:Zl W.heap.size (Zoy (.slice A1 nv c1) (.slice A3 nc c3)) W w6∧w6.ownsRow base 3 1 (.slice A1 nv c1) nv (ZO (ZcM vin sz (fun _=>2) (f+1) 0))∧w6.ownsRow base 3 1 (.slice A3 nc c3) nc (ZO (ZcM cin (List.replicate nc 1) (fun g=>2+ZaN vin sz g nv) (f+1) 0)):=by
      have h1:=S1.out.trans (Zl.of (HK2.out.mono S1.out.size));refine ⟨⟨?_,?_,?_,by rw [hsz6]; exact h1.size,fun b hb hx=>(hfar b (by omega)).trans (h1.block b hb hx)⟩,Zp ((S.out.r1.drew').below HK2.out) fun b hb=>hfar b ?_,Zp ((S.out.r3.drew').below HK2.out) fun b hb=>hfar b ?_⟩
      ·rw [← hw6]; exact h1.os
      ·rw [← hw6]; exact h1.tape
      ·rw [← hw6]; exact h1.output
      ·have:=(HL.out.r1.lt b hb).2; omega
      ·have:=(HL.out.r3.lt b hb).2; omega
     have HFIN:=Lh hfin
     have S6:w6.cell? ⟨bw,0,none⟩=some (.slice (some ⟨gp,0,none⟩) n cp)∧w6.cell? ⟨gp,f,none⟩=some (.int .i64 pf)∧gp < w6.heap.size∧bw < w6.heap.size:=by
      have q1:Blk w6 bw 79 #[.slice (some ⟨gp,0,none⟩) n cp,s.vu,s.vg]:=(hfar bw (by omega)).trans HPB.out;obtain ⟨cur,q2⟩:=HGB.out;have q3:Blk w6 gp 3 cur:=(hfar gp (by omega)).trans q2;have q4:=q3.cell f;rw [← q2.cell f,KF.2.1] at q4;exact ⟨by simpa using q1.cell 0,q4,q3.lt,q1.lt⟩
     rw [hw6];refine hK.out _ _ S6 (fun hHeld2=>?_);clear hK K hHeld2 hw6 hfar hfin r0 r1 r2 r3 r4 q0 q1 q2 q3 q4;refine wpAnyH_done (by kernel_rfl) ?_ _;have HF6:=Lh hF6;have l6:=hF6.lt;obtain ⟨r0,r1,r2,r3,r4⟩:=hF6.c5;simp at r0 r1 r2 r3 r4;clear hF6
     go_wp2
     (try simp only [Exit.inBlock,Exit.then])
     refine bodyPost_ret (v:=.agg #[.int .i64 pf,.int .i64 0,.int .i64 ((ac+tp:Nat):Int),.int .i64 5,.int .i64 ac]) (results_cell_row rfl _ _ (W.heap.size+1+1) _ _ (0,0) _ rfl HF6.out Tryz.underlying74 rfl (by kernel_rfl)) rfl ⟨by rw [HFR.out],Lh HFIN.out.1,Lh HFIN.out.2.1,Lh HFIN.out.2.2⟩
end
end Go.Proofs.YtjndhfcfcedheaaGreatDoor
