/- Texts that belong together: VG. -/
import Derived.Test.YtjndhfcfcedheaaGreatDoorHK20
import Derived.Test.YtjndhfcfcedheaaGreatDoorHK36
import Derived.Test.YtjndhfcfcedheaaGreatDoorHK11
import Derived.Test.YtjndhfcfcedheaaGreatDoorHK12
import Derived.Test.YtjndhfcfcedheaaGreatDoorHK45
import Derived.Test.YtjndhfcfcedheaaGreatDoorHK29
import Derived.BigRegionIn
set_option linter.unusedVariables false
set_option linter.unusedSimpArgs false
set_option maxRecDepth 100000
set_option maxHeartbeats 16000000
namespace Go.Proofs.YtjndhfcfcedheaaGreatDoor
open Go.RowKit
section
attribute [local go_sem] Oper.semAt_some
theorem ZaO:(Tryz.prog.info? 38).map (·.size)=some 5:=by kernel_rfl
theorem Zl1:(Tryz.prog.info? 4).map (fun i=>(i.zero,i.size,i.bytes))=some (some (.bool false),1,1):=by kernel_rfl
theorem Zlg (n:Nat):madeCells (Value.cells (.bool false)) n=ZaG (List.replicate n false):=by
 have e:(Value.bool false).cells=#[.bool false]:=rfl;rw [e];refine Array.ext (by simp [madeCells,ZaG]) fun i h1 h2=>?_
 simp [madeCells,Nat.mod_one,ZaG]
theorem ZbY {w w1:World} {g:Nat} {t:TypeId} (hb:Below w.heap.size w w1) (h:Blk w1 g t Zdb) (hg:w.heap.size≤g) :
  Below w.heap.size w (((((w1.setCell ⟨g,0,none⟩ (.slice none 0 0)).setCell ⟨g,1,none⟩ (.slice none 0 0)).setCell ⟨g,2,none⟩ (.slice none 0 0)).setCell ⟨g,3,none⟩ (.slice none 0 0)).setCell ⟨g,4,none⟩ (.slice none 0 0)) ∧
  Blk (((((w1.setCell ⟨g,0,none⟩ (.slice none 0 0)).setCell ⟨g,1,none⟩ (.slice none 0 0)).setCell ⟨g,2,none⟩ (.slice none 0 0)).setCell ⟨g,3,none⟩ (.slice none 0 0)).setCell ⟨g,4,none⟩ (.slice none 0 0)) g t Zdb:=by
 refine ⟨((((hb.setCell hg _).setCell hg _).setCell hg _).setCell hg _).setCell hg _,?_⟩;have:=((((h.set_ 0 (.slice none 0 0)).set_ 1 (.slice none 0 0)).set_ 2 (.slice none 0 0)).set_ 3 (.slice none 0 0)).set_ 4 (.slice none 0 0)
 simpa [Zdb] using this
structure MkA (k:KK) (rb go bo nc:Nat) (w:World) (kc:Array Value) (p:KP) (o:List Bool) (wr:World):Prop where
 bel:Below w.heap.size w wr
 kb:Blk wr w.heap.size 34 kc
 res:Blk wr (w.heap.size+1) 38 Zdb
 root:Blk wr rb 31 p.cells
 bg:Blk wr go 4 (ZaG o)
 bo:Blk wr bo 50 #[.slice (some ⟨go,0,none⟩) nc nc]
theorem MkA.call {k:KK} {rb go bo nc:Nat} {w wr w':World} {kc:Array Value} {p:KP} {o:List Bool} (h:MkA k rb go bo nc w kc p o wr) (hb:Below wr.heap.size wr w'):MkA k rb go bo nc w kc p o w' :=
 ⟨h.bel.trans (hb.mono h.bel.size),h.kb.call hb,h.res.call hb,h.root.call hb,h.bg.call hb,h.bo.call hb⟩
theorem MkA.outs {k:KK} {rb go bo nc:Nat} {w wr w':World} {kc:Array Value} {p:KP} {o o':List Bool} (h:MkA k rb go bo nc w kc p o wr) (hg:w.heap.size≤go) (hU:Upd go 4 (ZaG o') wr w'):MkA k rb go bo nc w kc p o' w':=by
 have far:∀ {g:Nat} {t:TypeId} {cs:Array Value},Blk wr g t cs→t≠4→Blk w' g t cs:=fun hb ht=>hU.bel.blk hb hb.lt fun e=>hb.ne_ h.bg ht e;have hs:=h.bel.size
 exact ⟨⟨hU.bel.os.trans h.bel.os,hU.bel.tape.trans h.bel.tape,hU.bel.output.trans h.bel.output,Nat.le_trans hs hU.bel.size,fun k hk=>(hU.bel.block k (by omega) (by omega)).trans (h.bel.block k hk)⟩,
  far h.kb (by decide),far h.res (by decide),far h.root (by decide),hU.blk,far h.bo (by decide)⟩
theorem MkA.store {k:KK} {rb go bo nc:Nat} {w wr:World} {kc:Array Value} {p x:KP} {o:List Bool} (h:MkA k rb go bo nc w kc p o wr) (hr:w.heap.size≤rb) {v0 v1 v2 v3 v4 v5 v6 v7:Value} (hx:x.cells=#[v0,v1,v2,v3,v4,v5,v6,v7]) :
  MkA k rb go bo nc w kc x o ((((((((wr.setCell ⟨rb,0,none⟩ v0).setCell ⟨rb,1,none⟩ v1).setCell ⟨rb,2,none⟩ v2).setCell ⟨rb,3,none⟩ v3).setCell ⟨rb,4,none⟩ v4).setCell ⟨rb,5,none⟩ v5).setCell ⟨rb,6,none⟩ v6).setCell ⟨rb,7,none⟩ v7):=by
 have far:∀ {g:Nat} {t:TypeId} {cs:Array Value},Blk wr g t cs→t≠31→Blk ((((((((wr.setCell ⟨rb,0,none⟩ v0).setCell ⟨rb,1,none⟩ v1).setCell ⟨rb,2,none⟩ v2).setCell ⟨rb,3,none⟩ v3).setCell ⟨rb,4,none⟩ v4).setCell ⟨rb,5,none⟩ v5).setCell ⟨rb,6,none⟩ v6).setCell ⟨rb,7,none⟩ v7) g t cs:=fun {g t cs} hb ht=>by
  have hn:g≠rb:=hb.ne_ h.root ht;exact Zk (Zk (Zk (Zk (Zk (Zk (Zk (Zk hb hn) hn) hn) hn) hn) hn) hn) hn
 refine ⟨(((((((h.bel.setCell hr _).setCell hr _).setCell hr _).setCell hr _).setCell hr _).setCell hr _).setCell hr _).setCell hr _,far h.kb (by decide),far h.res (by decide),?_,far h.bg (by decide),far h.bo (by decide)⟩;rw [hx];have:=(((((((h.root.set_ 0 v0).set_ 1 v1).set_ 2 v2).set_ 3 v3).set_ 4 v4).set_ 5 v5).set_ 6 v6).set_ 7 v7
 simpa [KP.cells] using this
theorem ZiZ {k:KK} {b:Nat} (hm:Zfd k=true) (hb:b < max 1 k.procs.length):Zcs k (b:Int)=if Zgf (Zs k b) then (ZaJ,240) else (Zs k b,0):=by
 have h1:¬ (Zfd k=false):=by rw [hm]; simp
 have h2:¬ ((b:Int) < 0∨((max 1 k.procs.length:Nat):Int)≤b):=by omega
 unfold Zcs;rw [if_neg h1,if_neg h2,Int.toNat_natCast]
theorem ZjN {k:KK} {b i:Nat} {x:KP} (hx:k.root.l[i]? = some x) (hn:i≠b):Zbt k b (i+1)=ZdC (Zd x).uses (Zbt k b i):=by
 rw [Zbt,if_neg hn,hx]
theorem ZjO {k:KK} {b i:Nat} (hn:i=b):Zbt k b (i+1)=Zbt k b i:=by
 rw [Zbt,if_pos hn]
theorem Zpz (k:KK) (branch:Int) (B:Nat) (w:World) (hin:k.In w B) (hB:B≤w.heap.size) (hcap:k.procs.length≤k.cp) (hb64:Zy branch) (hqB:Zae < B) (hq:ZP w) :
  Calls Tryz.prog 5 #[.agg k.flat,.int .i64 branch] w (ZeQ (Zcs k branch) w):=by
 obtain ⟨W0,hW0⟩:∃ W0,(w.alloc (.cells k.flat 34)).alloc (.cells Zdb 38)=W0:=⟨_,rfl⟩
 have K0:Hid (Below w.heap.size w W0):=Lh (by rw [← hW0]; exact ((Below.refl _ _).alloc (Nat.le_refl _) _).alloc (by simp) _);have HKB:Hid (Blk W0 w.heap.size 34 k.flat):=Lh (by rw [← hW0]; exact (Blk.new _ _ _).alloc _);have HRB:Hid (Blk W0 (w.heap.size+1) 38 Zdb):=Lh (by rw [← hW0]; have:=Blk.new (w.alloc (.cells k.flat 34)) 38 Zdb; rwa [World.size_alloc] at this);have HMAY:=Lh (ZpQ k B W0 (hin.below (K0.out.mono hB)) (Nat.le_trans hB K0.out.size) hcap);have HIN:=Lh hin;have HQ:=Lh hq;have HKF:Hid (Zfd k=true→Za9 k):=Lh ZgB;have hpl:=hin.2.2.2.1;have hvl:=hin.1.1;have hcl:=hin.2.1.1;have hrl:=hin.2.2.1.one.1.2.2.2.2.2;unfold ZB at hpl hvl hcl hrl
 obtain ⟨nv,hnv⟩:∃ m,k.vars.length=m:=⟨_,rfl⟩
 obtain ⟨nc,hnc⟩:∃ m,k.chans.length=m:=⟨_,rfl⟩
 obtain ⟨np,hnp⟩:∃ m,k.procs.length=m:=⟨_,rfl⟩
 obtain ⟨nl,hnl⟩:∃ m,k.root.l.length=m:=⟨_,rfl⟩
 obtain ⟨PL,hPL⟩:∃ m,k.root.Al=m:=⟨_,rfl⟩
 have HNV:=Lh hnv;have HNC:=Lh hnc;have HNP:=Lh hnp;have HNL:=Lh hnl;have HPL:=Lh hPL
 obtain ⟨RS,hRS⟩:∃ q,Zcs k branch=q:=⟨_,rfl⟩
 have HRS:=Lh hRS;rw [hRS]
 obtain ⟨mk,hmk⟩:∃ m,Zfd k=m:=⟨_,rfl⟩
 have HMK:=Lh hmk;rw [hmk] at HMAY;simp only [KK.flat,Zdb,hnv,hnc,hnp,hnl,hPL] at hW0 HMAY HKB HRB ⊢;rw [hnv] at hvl;rw [hnc] at hcl;rw [hnp] at hpl;rw [hnl] at hrl;unfold Zy at hb64;clear hin hq hcap hnv hnc hnp hnl hPL hRS hmk;have b0:=HKB.out;obtain ⟨e0,e1,e2,e3,e4,e5,e6,e7,e8,e9,e10⟩:=b0.c11;simp at e0 e1 e2 e3 e4 e5 e6 e7 e8 e9 e10;clear b0;refine (callsIn_wide (n:=9)).1 ?_;refine callsIn_of_wp_marks Tryz.func5 rfl trivial ?_ rfl;refine wpIn_wide.2 ?_;simp only [Tryz.ntmps5,List.size_toArray,List.length_cons,List.length_nil,Nat.reduceAdd,Nat.reduceSub,Array.replicate_succ,Array.replicate_zero,List.push_toArray,List.append_toArray,List.nil_append,List.cons_append]
 go_upto_region 1 with fail
 cases mk with
 | false =>
   go_wp2_with (first
    | (go_at_call 10; (with_reducible refine HMAY.out.mono ?_); rintro e1 w1 ⟨rfl,K1⟩
       have b1:=HRB.out.call K1;have hlt1:=b1.lt;obtain ⟨f0,f1,f2,f3,f4⟩:=b1.z5;obtain ⟨d0,d1,d2,d3,d4⟩:=b1.c5;simp at d0 d1 d2 d3 d4;have HB1:=Lh b1;have HK1:=Lh K1
       clear b1 K1))
   have hst:=ZbY (K0.out.trans (HK1.out.mono K0.out.size)) HB1.out (Nat.le_succ _);have HE:Hid (RS=(ZaJ,2)):=Lh (by rw [← HRS.out]; unfold Zcs; rw [if_pos HMK.out]);rw [HE.out];exact ⟨_,Ze rfl _ _ (w.heap.size+1) _ Zdb (0,0) _ _ rfl rfl hst.2 Tryz.underlying38 rfl ZaO,Zbe hst.1⟩
 | true =>
   have kf:=HKF.out HMK.out
   go_upto_region 3 with (first
    | (go_at_call 10; (with_reducible refine HMAY.out.mono ?_); rintro e1 w1 ⟨rfl,K1⟩
       have b1:=HRB.out.call K1;have HB1:=Lh b1;have HK1:=Lh K1;have HKB1:=Lh (HKB.out.call K1)
       clear b1 K1))
   clear hW0 e0 e1 e2 e3 e4 e5 e6 e7 e8 e9 e10 HMAY;have b1:=HB1.out;have hlt1:=b1.lt;obtain ⟨f0,f1,f2,f3,f4⟩:=b1.z5;obtain ⟨d0,d1,d2,d3,d4⟩:=b1.c5;simp at d0 d1 d2 d3 d4;have b2:=HKB1.out;have hlt2:=b2.lt;obtain ⟨e0,e1,e2,e3,e4,e5,e6,e7,e8,e9,e10⟩:=b2.c11;simp at e0 e1 e2 e3 e4 e5 e6 e7 e8 e9 e10;clear b1 b2;have hnp:=kf.ps;rw [HNP.out,HNL.out] at hnp;have hnl:=kf.rl;rw [HNL.out] at hnl
   by_cases hneg:branch < 0
   ·have hst:=ZbY (K0.out.trans (HK1.out.mono K0.out.size)) HB1.out (Nat.le_succ _);have HST:=Lh hst;have HE:Hid (RS=(ZaJ,4)):=Lh (by rw [← HRS.out]; unfold Zcs; rw [HMK.out,if_neg (by simp),if_pos (.inl hneg)]);clear hst kf
    go_wp2_with fail
    rw [HE.out];exact ⟨_,Ze rfl _ _ (w.heap.size+1) _ Zdb (0,0) _ _ rfl rfl HST.out.2 Tryz.underlying38 rfl ZaO,Zbe HST.out.1⟩
   by_cases hbig:max 1 (np:Int)≤branch
   ·have hst:=ZbY (K0.out.trans (HK1.out.mono K0.out.size)) HB1.out (Nat.le_succ _);have HST:=Lh hst;have HE:Hid (RS=(ZaJ,4)):=Lh (by rw [← HRS.out]; unfold Zcs; rw [HMK.out,if_neg (by simp),if_pos (.inr (by have:=HNP.out; omega))]);clear hst kf
    go_wp2_with fail
    rw [HE.out];exact ⟨_,Ze rfl _ _ (w.heap.size+1) _ Zdb (0,0) _ _ rfl rfl HST.out.2 Tryz.underlying38 rfl ZaO,Zbe HST.out.1⟩
   obtain ⟨b,rfl⟩:∃ m:Nat,branch=m:=⟨branch.toNat,by omega⟩
   have hbm:b < max 1 np:=by omega
   have HRS2:Hid ((if Zgf (Zs k b) then (ZaJ,240) else (Zs k b,0))=RS):=Lh (by rw [← HRS.out,ZiZ HMK.out (by rw [HNP.out]; exact hbm)]);clear HRS;have hnv:=kf.nv;have hnc:=kf.nc;have hnc2:=kf.nc2;rw [HNV.out] at hnv;rw [HNC.out] at hnc hnc2;obtain ⟨i0,hi0,hz0,hz1,hz2⟩:=info_parts Zl1;have hmk:=ZcD (P:=Tryz.prog) 50 4 i0 _ Tryz.underlying50 hi0 hz0 .i64 .i64 nc nc (Nat.le_refl _) (by rw [hz2]; omega) (by omega) (w1.alloc (.cells k.root.cells 31));rw [hz1,Nat.mul_one,Zlg,World.size_alloc] at hmk;have HKF2:=Lh kf;simp only [KP.cells,HNL.out,HPL.out] at hmk
   obtain ⟨W3,hW3⟩:∃ W3,((w1.alloc (.cells k.root.cells 31)).alloc (.cells (ZaG (List.replicate nc false)) 4)).alloc (.cells #[.slice (some ⟨w1.heap.size+1,0,none⟩) nc nc] 50)=W3:=⟨_,rfl⟩
   have S3:Hid (MkA k w1.heap.size (w1.heap.size+1) (w1.heap.size+1+1) nc w #[.slice k.Av nv k.cv,.slice k.Ac nc k.cc,.int .u8 k.root.kind,.int .i64 k.root.c,.int .i64 k.root.v,.int .u8 k.root.item,.slice k.root.At k.root.tos.length k.root.ct,.slice k.root.Ae k.root.e.length k.root.ce,.slice k.root.Ag k.root.g.length k.root.cg,.slice PL nl k.root.cl,.slice k.Ap np k.cp] k.root (List.replicate nc false) W3):=Lh (by
    have hb:Below w1.heap.size w1 W3:=by rw [← hW3]; exact (((Below.refl _ _).alloc (Nat.le_refl _) _).alloc (by simp) _).alloc (by simp; omega) _
    refine ⟨(K0.out.trans (HK1.out.mono K0.out.size)).trans (hb.mono (Nat.le_trans K0.out.size HK1.out.size)),HKB1.out.call hb,HB1.out.call hb,?_,?_,?_⟩
    ·rw [← hW3]; exact ((Blk.new _ _ _).alloc _).alloc _
    ·rw [← hW3]; have h:=(Blk.new (w1.alloc (.cells k.root.cells 31)) 4 (ZaG (List.replicate nc false))).alloc (.cells #[.slice (some ⟨w1.heap.size+1,0,none⟩) nc nc] 50); rwa [World.size_alloc] at h
    ·rw [← hW3]; have h:=Blk.new ((w1.alloc (.cells k.root.cells 31)).alloc (.cells (ZaG (List.replicate nc false)) 4)) 50 #[.slice (some ⟨w1.heap.size+1,0,none⟩) nc nc]; rwa [World.size_alloc,World.size_alloc] at h)
   simp only [KP.cells,HNL.out,HPL.out] at hW3
   have hsz1:w.heap.size+2≤w1.heap.size:=by omega
   go_upto_region 7 with fail
   obtain ⟨rb,hrb⟩:∃ m,w1.heap.size=m:=⟨_,rfl⟩
   rw [hrb] at S3 hsz1 ⊢
   obtain ⟨go,hgo⟩:∃ m,rb+1=m:=⟨_,rfl⟩
   obtain ⟨bo,hbo⟩:∃ m,go+1=m:=⟨_,rfl⟩
   rw [hgo,hbo] at S3 ⊢
   have hgw:w.heap.size+2≤go:=by omega
   have hne1:¬ bo=go:=by omega
   have hne2:¬ go=bo:=by omega
   clear hW3 hmk hrb hgo hbo HB1 HK1 HKB1 d0 d1 d2 d3 d4 f0 f1 f2 f3 f4 e0 e1 e2 e3 e4 e5 e6 e7 e8 e9 e10 hlt1 hlt2;have b1:=S3.out.bg;have hlt1:=b1.lt;have d0:=b1.cell 0;rw [Zdy (by simp; omega)] at d0;have d1:=b1.cell 1;rw [Zdy (by simp; omega)] at d1;obtain ⟨f0,f1⟩:=b1.z2;have b2:=S3.out.bo;have hlt2:=b2.lt;have d2:=b2.cell 0;simp at d2;clear b1 b2;generalize List.getD _ _ _=dv0 at d0;generalize List.getD _ _ _=dv1 at d1
   go_region
   go_upto_region 8 with fail
   have S4:Hid (MkA k rb go bo nc w #[.slice k.Av nv k.cv,.slice k.Ac nc k.cc,.int .u8 k.root.kind,.int .i64 k.root.c,.int .i64 k.root.v,.int .u8 k.root.item,.slice k.root.At k.root.tos.length k.root.ct,.slice k.root.Ae k.root.e.length k.root.ce,.slice k.root.Ag k.root.g.length k.root.cg,.slice PL nl k.root.cl,.slice k.Ap np k.cp] k.root (ZhA nc) ((W3.setCell ⟨go,0,none⟩ (.bool true)).setCell ⟨go,1,none⟩ (.bool true)).drew):=Lh (by
    have h1:=Upd.set (Below.refl W3.heap.size W3) S3.out.bg 0 (.bool true) (ZeO _ _ _);have h2:=S3.out.outs (by omega) h1;have h3:=Upd.set (Below.refl _ _) h2.bg 1 (.bool true) (ZeO _ _ _)
    exact (h2.outs (by omega) h3).call (Below.refl _ _).drew)
   generalize ((W3.setCell ⟨go,0,none⟩ (.bool true)).setCell ⟨go,1,none⟩ (.bool true)).drew=W4 at *;clear S3 d0 d1 d2 f0 f1 hlt1 hlt2;have b2:=S4.out.kb;have hlt2:=b2.lt;obtain ⟨e0,e1,e2,e3,e4,e5,e6,e7,e8,e9,e10⟩:=b2.c11;simp at e0 e1 e2 e3 e4 e5 e6 e7 e8 e9 e10;clear b2
   go_upto_if 46 with fail
   generalize hqn:decide (0 < np)=qn;have HQN:=Lh hqn;clear hqn
   go_cut [8,9] from 12 to 68 (fun s8 s9 wx=>Hid (MkA k rb go bo nc w #[.slice k.Av nv k.cv,.slice k.Ac nc k.cc,.int .u8 k.root.kind,.int .i64 k.root.c,.int .i64 k.root.v,.int .u8 k.root.item,.slice k.root.At k.root.tos.length k.root.ct,.slice k.root.Ae k.root.e.length k.root.ce,.slice k.root.Ag k.root.g.length k.root.cg,.slice PL nl k.root.cl,.slice k.Ap np k.cp] (Zh k b) (ZbB k b) wx))
   case first =>
    cases qn with
    | false =>
      have hz:np=0:=by have:=of_decide_eq_false HQN.out; omega
      have S5:Hid (MkA k rb go bo nc w #[.slice k.Av nv k.cv,.slice k.Ac nc k.cc,.int .u8 k.root.kind,.int .i64 k.root.c,.int .i64 k.root.v,.int .u8 k.root.item,.slice k.root.At k.root.tos.length k.root.ct,.slice k.root.Ae k.root.e.length k.root.ce,.slice k.root.Ag k.root.g.length k.root.cg,.slice PL nl k.root.cl,.slice k.Ap np k.cp] (Zh k b) (ZbB k b) W4):=Lh (by
       unfold Zh ZbB;rw [HNP.out,if_pos hz,if_pos hz,HNC.out]
       exact S4.out)
      clear hz hnp
      go_wp2_with fail
      go_meet;exact S5
    | true =>
      have hz:¬ np=0:=by have:=of_decide_eq_true HQN.out; omega
      have hln:nl=np:=by rcases hnp with h | h; exact absurd h hz; exact h
      have hbl:b < nl:=by omega
      have hbI:(b:Int) < nl:=by omega
      have HLN:=Lh hln;have HZ:=Lh hz;clear hln hnp;have hin4:=HIN.out.below (S4.out.bel.mono hB);obtain ⟨pb,po,x,hA,hpb,hx,hmx,c0,c1,c2,c3,c4,c5,c6,c7⟩:=Za4 hin4.2.2.1.one.2.2.2.2 rfl (k:=b) (by rw [HNL.out]; exact hbl);have hpw:pb < W4.heap.size:=Nat.lt_of_lt_of_le (Nat.lt_of_lt_of_le hpb hB) S4.out.bel.size;obtain rfl:PL=some ⟨pb,po,none⟩:=HPL.out.symm.trans hA;have b3:=S4.out.root;have hlt3:=b3.lt;simp only [KP.cells] at b3;obtain ⟨f0,f1,f2,f3,f4,f5,f6,f7⟩:=b3.z8;obtain ⟨d0,d1,d2,d3,d4,d5,d6,d7⟩:=b3.c8;simp at d0 d1 d2 d3 d4 d5 d6 d7;clear b3
      have S5:Hid (MkA k rb go bo nc w #[.slice k.Av nv k.cv,.slice k.Ac nc k.cc,.int .u8 k.root.kind,.int .i64 k.root.c,.int .i64 k.root.v,.int .u8 k.root.item,.slice k.root.At k.root.tos.length k.root.ct,.slice k.root.Ae k.root.e.length k.root.ce,.slice k.root.Ag k.root.g.length k.root.cg,.slice (some ⟨pb,po,none⟩) nl k.root.cl,.slice k.Ap np k.cp] x (Zbt k b 0) ((((((((W4.setCell ⟨rb,0,none⟩ (.int .u8 x.kind)).setCell ⟨rb,1,none⟩ (.int .i64 x.c)).setCell ⟨rb,2,none⟩ (.int .i64 x.v)).setCell ⟨rb,3,none⟩ (.int .u8 x.item)).setCell ⟨rb,4,none⟩ (.slice x.At x.tos.length x.ct)).setCell ⟨rb,5,none⟩ (.slice x.Ae x.e.length x.ce)).setCell ⟨rb,6,none⟩ (.slice x.Ag x.g.length x.cg)).setCell ⟨rb,7,none⟩ (.slice x.Al x.l.length x.cl))):=Lh (by
       rw [Zbt,HNC.out]
       exact S4.out.store (by omega) rfl)
      have HBR:Hid (Zh k b=x):=Lh (by unfold Zh; rw [HNP.out,if_neg hz,List.getD_eq_getElem?_getD,hx]; rfl);clear hin4 hA hx hmx hz
      go_upto_region 10 with fail
      generalize (World.setCell (World.setCell (World.setCell (World.setCell (World.setCell (World.setCell (World.setCell (World.setCell W4 _ _) _ _) _ _) _ _) _ _) _ _) _ _) _ _)=W5 at *;clear S4 e0 e1 e2 e3 e4 e5 e6 e7 e8 e9 e10 c0 c1 c2 c3 c4 c5 c6 c7 d0 d1 d2 d3 d4 d5 d6 d7 f0 f1 f2 f3 f4 f5 f6 f7 hlt2 hlt3 hpw hpb;have b2:=S5.out.kb;have hlt2:=b2.lt;obtain ⟨e0,e1,e2,e3,e4,e5,e6,e7,e8,e9,e10⟩:=b2.c11;simp at e0 e1 e2 e3 e4 e5 e6 e7 e8 e9 e10;clear b2;have kf:=HKF2.out;have hk2:=kf.nc;rw [HNC.out] at hk2
      go_wp2_with fail
      go_loopw [57] (fun i wr=>∃ j:Nat,j≤nl∧i = .int .i64 j∧Hid (MkA k rb go bo nc w #[.slice k.Av nv k.cv,.slice k.Ac nc k.cc,.int .u8 k.root.kind,.int .i64 k.root.c,.int .i64 k.root.v,.int .u8 k.root.item,.slice k.root.At k.root.tos.length k.root.ct,.slice k.root.Ae k.root.e.length k.root.ce,.slice k.root.Ag k.root.g.length k.root.cg,.slice (some ⟨pb,po,none⟩) nl k.root.cl,.slice k.Ap np k.cp] x (Zbt k b j) wr)) (fun i _=>nl - (intOf i).toNat)
      case atStart=>exact ⟨0,Nat.zero_le _,rfl,S5⟩
      case round =>
       clear S5 e0 e1 e2 e3 e4 e5 e6 e7 e8 e9 e10 hlt2 kf;obtain ⟨j,hj,rfl,S⟩:=hrel
       by_cases hlt:j < nl
       ·have hltI:(j:Int) < nl:=by omega
        have hin4:=HIN.out.below (S.out.bel.mono hB);obtain ⟨pb',po',y,hA,hpb,hy,hmy,c0,c1,c2,c3,c4,c5,c6,c7⟩:=Za4 hin4.2.2.1.one.2.2.2.2 rfl (k:=j) (by rw [HNL.out]; exact hlt)
        have hAe:pb'=pb∧po'=po:=by have h:=hA.symm.trans HPL.out; injection h with h; injection h with h1 h2; exact ⟨h1,h2⟩
        obtain ⟨rfl,rfl⟩:=hAe;have hpw:pb' < wr.heap.size:=Nat.lt_of_lt_of_le (Nat.lt_of_lt_of_le hpb hB) S.out.bel.size;have S2:Hid (MkA k rb go bo nc w #[.slice k.Av nv k.cv,.slice k.Ac nc k.cc,.int .u8 k.root.kind,.int .i64 k.root.c,.int .i64 k.root.v,.int .u8 k.root.item,.slice k.root.At k.root.tos.length k.root.ct,.slice k.root.Ae k.root.e.length k.root.ce,.slice k.root.Ag k.root.g.length k.root.cg,.slice (some ⟨pb',po',none⟩) nl k.root.cl,.slice k.Ap np k.cp] x (Zbt k b j) (wr.alloc (.cells y.cells 31))):=Lh (S.out.call ((Below.refl _ _).alloc (Nat.le_refl _) _));have bx:=Blk.new wr 31 y.cells;have HB:=Lh bx;have HY:=Lh hy;have hyall:=HKF2.out.all (.inr hmy);have hysm:=HKF2.out.small (.inr hmy);have hyin:=hin4.2.2.1.part hmy;rw [HNC.out] at hyall;simp only [KP.cells] at S2 bx HB
        by_cases hjb:j=b
        ·have hjI:((j:Int) != (b:Int))=false:=by simp [hjb]
         have HSK:Hid (Zbt k b (j+1)=Zbt k b j):=Lh (ZjO hjb);clear hjb hin4 hA hy hmy hyall hysm hyin bx HB S
         go_upto_region 13 with fail
         generalize wr.alloc _=w2 at *;clear c0 c1 c2 c3 c4 c5 c6 c7 hpw hpb
         go_wp2_with fail
         go_roundw
         case rel=>exact ⟨j+1,by omega,by go_num,Lh (by rw [HSK.out]; exact S2.out)⟩
         case measure=>simp [intOf]; omega
        ·have hjI:((j:Int) != (b:Int))=true:=by simp; omega
         have HSK:Hid (Zbt k b (j+1)=ZdC (Zd y).uses (Zbt k b j)):=Lh (ZjN hy hjb)
         have HC:Hid (Calls Tryz.prog 11 #[.agg y.cells,.func (.func 12) #[] #[.pointer (some ⟨bo,0,none⟩)]] (wr.alloc (.cells y.cells 31)) (Zkf go 4 (ZaG (ZdC (Zd y).uses (Zbt k b j))) (wr.alloc (.cells y.cells 31)))):=Lh (
          ZkI y k.vars nc bo go nc B (Zbt k b j) _ hyall (hyin.below ((Below.refl _ _).alloc (Nat.le_trans hB S.out.bel.size) _)) (by omega) hk2 (by rw [Zcr,HNC.out]) (S.out.bo.alloc _) (S.out.bg.alloc _) (by omega) (by omega))
         simp only [KP.cells] at HC;clear hjb hin4 hA hy hmy hyall hysm hyin bx S
         go_upto_region 13 with fail
         generalize wr.alloc _=w2 at *;clear c0 c1 c2 c3 c4 c5 c6 c7 hpw hpb;have x1:=S2.out.bo;have hlx:=x1.lt;have c0:=x1.cell 0;simp at c0;have x2:=HB.out;have hly:=x2.lt;obtain ⟨d0,d1,d2,d3,d4,d5,d6,d7⟩:=x2.c8;simp at d0 d1 d2 d3 d4 d5 d6 d7;clear x1 x2
         go_wp2_with (first
          | (go_at_call 11; (with_reducible refine HC.out.mono ?_); rintro e1 w3 ⟨rfl,hU⟩
             have S3:=Lh (S2.out.outs (by omega) hU)
             clear hU))
         go_roundw
         case rel=>exact ⟨j+1,by omega,by go_num,Lh (by rw [HSK.out]; exact S3.out)⟩
         case measure=>simp [intOf]; omega
       ·have hltI:¬ (j:Int) < nl:=by omega
        obtain rfl:nl=j:=by omega
        have S6:Hid (MkA k rb go bo nc w #[.slice k.Av nv k.cv,.slice k.Ac nc k.cc,.int .u8 k.root.kind,.int .i64 k.root.c,.int .i64 k.root.v,.int .u8 k.root.item,.slice k.root.At k.root.tos.length k.root.ct,.slice k.root.Ae k.root.e.length k.root.ce,.slice k.root.Ag k.root.g.length k.root.cg,.slice (some ⟨pb,po,none⟩) nl k.root.cl,.slice k.Ap np k.cp] (Zh k b) (ZbB k b) wr):=Lh (by
         have h:ZbB k b=Zbt k b nl:=by unfold ZbB; rw [HNP.out,if_neg HZ.out,HNL.out]
         rw [h,HBR.out]
         exact S.out)
        clear S
        go_wp2_with fail
        go_meet;exact S6
   case rest =>
    have S:=hcut;clear hcut S4 e0 e1 e2 e3 e4 e5 e6 e7 e8 e9 e10 hlt2;have b2:=S.out.kb;have hlt2:=b2.lt;obtain ⟨e0,e1,e2,e3,e4,e5,e6,e7,e8,e9,e10⟩:=b2.c11;simp at e0 e1 e2 e3 e4 e5 e6 e7 e8 e9 e10;clear b2;have hgl:=S.out.bg.lt;have hbol:=S.out.bo.lt;have hrbl:=S.out.root.lt;generalize Value.agg _=A0
    go_upto_region 16 with fail
    go_cut [10] from 69 to 85 (fun s10 wx=>∃ bs g1 g2 g3 g4,s10 = .pointer (some ⟨bs,0,none⟩)∧Hid (MkA k rb go bo nc w #[.slice k.Av nv k.cv,.slice k.Ac nc k.cc,.int .u8 k.root.kind,.int .i64 k.root.c,.int .i64 k.root.v,.int .u8 k.root.item,.slice k.root.At k.root.tos.length k.root.ct,.slice k.root.Ae k.root.e.length k.root.ce,.slice k.root.Ag k.root.g.length k.root.cg,.slice PL nl k.root.cl,.slice k.Ap np k.cp] (Zh k b) (ZbB k b) wx)∧Hid (SpA wc bs g1 g2 g3 g4 nv nc wx))
    case first =>
     have HNO:Hid (∀ (n:Nat) (W:World) (gs:List (Nat×Nat)) (ob:Option Nat),n≤256→Hid (NoS wc gs ob W)→Calls Tryz.prog 13 #[.int .i64 n] W (fun e W'=>∃ g,e = .returned (.slice (some ⟨g,0,none⟩) n n)∧Hid (NoS wc (gs++[(g,n)]) ob W'))):=Lh fun n W gs ob hn h=>(Zpy n hn W).mono fun e W' hr=>h.out.step hr;have H256:Hid (nv≤256∧nc≤256):=Lh ⟨by omega,by omega⟩;have Q:=Lh (NoS.start wc);have QD:Hid (NoS wc [] (some wc.heap.size) (wc.alloc (.cells #[.slice none 0 0,.slice none 0 0,.slice none 0 0,.slice none 0 0,.slice none 0 0] 38)).drew):=Lh (by have h:=(NoS.made Q).out; exact ⟨h.bel,h.rows,h.nd,h.box⟩)
     have HFIN:Hid (∀ (g1 g2 g3 g4 b':Nat) (W':World),SpA wc b' g1 g2 g3 g4 nv nc W'→Hid (MkA k rb go bo nc w #[.slice k.Av nv k.cv,.slice k.Ac nc k.cc,.int .u8 k.root.kind,.int .i64 k.root.c,.int .i64 k.root.v,.int .u8 k.root.item,.slice k.root.At k.root.tos.length k.root.ct,.slice k.root.Ae k.root.e.length k.root.ce,.slice k.root.Ag k.root.g.length k.root.cg,.slice PL nl k.root.cl,.slice k.Ap np k.cp] (Zh k b) (ZbB k b) W')∧Hid (SpA wc b' g1 g2 g3 g4 nv nc W')):=Lh fun _ _ _ _ _ W' h=>⟨Lh (S.out.call h.bel),Lh h⟩
     clear S HIN HQ HKF HNV HNC HNP HNL HPL HMK HKF2 HRS2 HQN K0 HRB HKB e2 e3 e4 e5 e6 e7 e8 e9 e10 hgl hbol hrbl hnl hsz1 hgw hne1 hne2 hbm hbig hneg hb64 hqB hB hpl hvl hcl hrl hi0 hz0 hz1 hz2 hnp;refine Za5 ?_;refine ZaV (fun w'=>wc.heap.size≤w'.heap.size∧∀ b o,b < wc.heap.size→w'.cell? ⟨b,o,none⟩=wc.cell? ⟨b,o,none⟩) [0,1,2,4,5,6,8,9,10,12,13,14] 7 (listed:=#[true,true,true,false,true,true,true,false,true,true,true,false,true,true,true,false,false,false,false]) (by kernel_rfl) (by kernel_rfl) (by kernel_rfl) (by kernel_rfl) (by kernel_rfl) (fun _ _ d _ _ h=>by cases d <;> exact h) Zi.drew (fun R hR=>?_);simp only [List.filterMap_cons,List.filterMap_nil,List.getElem?_toArray,List.getElem?_cons_succ,List.getElem?_cons_zero]
     iterate 12
      refine Zc (v:=?_) rfl (fun w hSw=>?_) ?_
      rotate_left
      ·(try dsimp only at hSw); go_simp; all_goals with_reducible rfl
      (try simp only [Act.put,qA,qB,qC])
     refine Zco (hR _ ?_);clear hR R;refine wpAnyH_ready (rs:=[3,17]) (by kernel_rfl) (by simp) ?_;refine .cons rfl (fun K hK=>?_) ?_
     ·go_simp
      (go_at_call 13; (with_reducible refine (HNO.out _ _ _ _ H256.out.1 Q).mono ?_))
      rintro e w2 ⟨h0,rfl,Q1⟩
      go_wp2_with fail
      refine hK.out _ _ (NoS.sb Q1) (fun hHeld=>?_);clear hK K
      (try simp only [Act.put,qA,qB,qC])
      refine wpAnyH_ready (rs:=[7,17]) (by kernel_rfl) (by simp) ?_;refine .cons rfl (fun K hK=>?_) ?_
      ·go_simp
       (go_at_call 13; (with_reducible refine (HNO.out _ _ _ _ H256.out.1 Q1).mono ?_))
       rintro e w2 ⟨h1,rfl,Q2⟩
       go_wp2_with fail
       refine hK.out _ _ (NoS.sb Q2) (fun hHeld=>?_);clear hK K
       (try simp only [Act.put,qA,qB,qC])
       refine wpAnyH_ready (rs:=[11,17]) (by kernel_rfl) (by simp) ?_;refine .cons rfl (fun K hK=>?_) ?_
       ·go_simp
        (go_at_call 13; (with_reducible refine (HNO.out _ _ _ _ H256.out.2 Q2).mono ?_))
        rintro e w2 ⟨h2,rfl,Q3⟩
        go_wp2_with fail
        refine hK.out _ _ (NoS.sb Q3) (fun hHeld=>?_);clear hK K
        (try simp only [Act.put,qA,qB,qC])
        refine wpAnyH_ready (rs:=[15,17]) (by kernel_rfl) (by simp) ?_;refine .cons rfl (fun K hK=>?_) ?_
        ·go_simp
         (go_at_call 13; (with_reducible refine (HNO.out _ _ _ _ H256.out.2 Q3).mono ?_))
         rintro e w2 ⟨h3,rfl,Q4⟩
         go_wp2_with fail
         refine hK.out _ _ (NoS.sb Q4) (fun hHeld=>?_);clear hK K
         (try simp only [Act.put,qA,qB,qC])
         refine wpAnyH_ready (rs:=[16,17]) (by kernel_rfl) (by simp) ?_;refine .cons rfl (fun K hK=>?_) ?_
         ·go_simp
          refine hK.out _ _ (NoS.sb Q4) (fun hHeld=>?_);clear hK K
          (try simp only [Act.put,qA,qB,qC])
          refine wpAnyH_ready (rs:=[17]) (by kernel_rfl) (by simp) ?_;refine .cons rfl (fun K hK=>?_) ?_
          ·have Q6:=NoS.made Q4
           go_simp
           refine hK.out _ _ (by first | exact NoS.sb Q6 | exact NoS.sb QD) (fun hHeld=>?_);clear hK K
           (try simp only [Act.put,qA,qB,qC])
           refine wpAnyH_ready (rs:=[18]) (by kernel_rfl) (by simp) ?_;refine .cons rfl (fun K hK=>?_) ?_
           ·have bb:=(Q6.out.box _ rfl).2;have hlb:=bb.lt;simp only [Zh0] at bb;obtain ⟨f0,f1,f2,f3,f4⟩:=bb.z5;obtain ⟨d0,d1,d2,d3,d4⟩:=bb.c5;simp at d0 d1 d2 d3 d4;clear bb
            go_simp
            refine hK.out _ _ (Zi.alloc (NoS.sb Q4) _) (fun hHeld=>?_);clear hK K
            (try simp only [Act.put,qA,qB,qC])
            refine wpAnyH_done (by kernel_rfl) ?_ _
            go_wp2
            go_meet;exact ⟨_,_,_,_,_,rfl,HFIN.out _ _ _ _ _ _ (NoS.finA (g1:=h0) (g2:=h1) (g3:=h2) (g4:=h3) Q4)⟩
           exact .nil
          exact .nil
         refine .cons rfl (fun K hK=>?_) ?_
         ·have Q8:=NoS.made Q4
          go_simp
          refine hK.out _ _ (by first | exact NoS.sb Q8 | exact NoS.sb QD) (fun hHeld=>?_);clear hK K
          (try simp only [Act.put,qA,qB,qC])
          refine wpAnyH_ready (rs:=[16]) (by kernel_rfl) (by simp) ?_;refine .cons rfl (fun K hK=>?_) ?_
          ·go_simp
           refine hK.out _ _ (NoS.sb Q8) (fun hHeld=>?_);clear hK K
           (try simp only [Act.put,qA,qB,qC])
           refine wpAnyH_ready (rs:=[18]) (by kernel_rfl) (by simp) ?_;refine .cons rfl (fun K hK=>?_) ?_
           ·have bb:=(Q8.out.box _ rfl).2;have hlb:=bb.lt;simp only [Zh0] at bb;obtain ⟨f0,f1,f2,f3,f4⟩:=bb.z5;obtain ⟨d0,d1,d2,d3,d4⟩:=bb.c5;simp at d0 d1 d2 d3 d4;clear bb
            go_simp
            refine hK.out _ _ (Zi.alloc (NoS.sb Q4) _) (fun hHeld=>?_);clear hK K
            (try simp only [Act.put,qA,qB,qC])
            refine wpAnyH_done (by kernel_rfl) ?_ _
            go_wp2
            go_meet;exact ⟨_,_,_,_,_,rfl,HFIN.out _ _ _ _ _ _ (NoS.finA (g1:=h0) (g2:=h1) (g3:=h2) (g4:=h3) Q4)⟩
           exact .nil
          exact .nil
         exact .nil
        refine .cons rfl (fun K hK=>?_) ?_
        ·have Q11:=NoS.made Q3
         go_simp
         refine hK.out _ _ (by first | exact NoS.sb Q11 | exact NoS.sb QD) (fun hHeld=>?_);clear hK K
         (try simp only [Act.put,qA,qB,qC])
         refine wpAnyH_ready (rs:=[15]) (by kernel_rfl) (by simp) ?_;refine .cons rfl (fun K hK=>?_) ?_
         ·go_simp
          (go_at_call 13; (with_reducible refine (HNO.out _ _ _ _ H256.out.2 Q11).mono ?_))
          rintro e w2 ⟨h3,rfl,Q12⟩
          go_wp2_with fail
          refine hK.out _ _ (NoS.sb Q12) (fun hHeld=>?_);clear hK K
          (try simp only [Act.put,qA,qB,qC])
          refine wpAnyH_ready (rs:=[16]) (by kernel_rfl) (by simp) ?_;refine .cons rfl (fun K hK=>?_) ?_
          ·go_simp
           refine hK.out _ _ (NoS.sb Q12) (fun hHeld=>?_);clear hK K
           (try simp only [Act.put,qA,qB,qC])
           refine wpAnyH_ready (rs:=[18]) (by kernel_rfl) (by simp) ?_;refine .cons rfl (fun K hK=>?_) ?_
           ·have bb:=(Q12.out.box _ rfl).2;have hlb:=bb.lt;simp only [Zh0] at bb;obtain ⟨f0,f1,f2,f3,f4⟩:=bb.z5;obtain ⟨d0,d1,d2,d3,d4⟩:=bb.c5;simp at d0 d1 d2 d3 d4;clear bb
            go_simp
            refine hK.out _ _ (NoS.sb5 Q12) (fun hHeld=>?_);clear hK K
            (try simp only [Act.put,qA,qB,qC])
            refine wpAnyH_done (by kernel_rfl) ?_ _
            go_wp2
            go_meet;exact ⟨_,_,_,_,_,rfl,HFIN.out _ _ _ _ _ _ (NoS.fin (g1:=h0) (g2:=h1) (g3:=h2) (g4:=h3) Q12)⟩
           exact .nil
          exact .nil
         exact .nil
        exact .nil
       refine .cons rfl (fun K hK=>?_) ?_
       ·have Q15:=NoS.made Q2
        go_simp
        refine hK.out _ _ (by first | exact NoS.sb Q15 | exact NoS.sb QD) (fun hHeld=>?_);clear hK K
        (try simp only [Act.put,qA,qB,qC])
        refine wpAnyH_ready (rs:=[11]) (by kernel_rfl) (by simp) ?_;refine .cons rfl (fun K hK=>?_) ?_
        ·go_simp
         (go_at_call 13; (with_reducible refine (HNO.out _ _ _ _ H256.out.2 Q15).mono ?_))
         rintro e w2 ⟨h2,rfl,Q16⟩
         go_wp2_with fail
         refine hK.out _ _ (NoS.sb Q16) (fun hHeld=>?_);clear hK K
         (try simp only [Act.put,qA,qB,qC])
         refine wpAnyH_ready (rs:=[15]) (by kernel_rfl) (by simp) ?_;refine .cons rfl (fun K hK=>?_) ?_
         ·go_simp
          (go_at_call 13; (with_reducible refine (HNO.out _ _ _ _ H256.out.2 Q16).mono ?_))
          rintro e w2 ⟨h3,rfl,Q17⟩
          go_wp2_with fail
          refine hK.out _ _ (NoS.sb Q17) (fun hHeld=>?_);clear hK K
          (try simp only [Act.put,qA,qB,qC])
          refine wpAnyH_ready (rs:=[16]) (by kernel_rfl) (by simp) ?_;refine .cons rfl (fun K hK=>?_) ?_
          ·go_simp
           refine hK.out _ _ (NoS.sb Q17) (fun hHeld=>?_);clear hK K
           (try simp only [Act.put,qA,qB,qC])
           refine wpAnyH_ready (rs:=[18]) (by kernel_rfl) (by simp) ?_;refine .cons rfl (fun K hK=>?_) ?_
           ·have bb:=(Q17.out.box _ rfl).2;have hlb:=bb.lt;simp only [Zh0] at bb;obtain ⟨f0,f1,f2,f3,f4⟩:=bb.z5;obtain ⟨d0,d1,d2,d3,d4⟩:=bb.c5;simp at d0 d1 d2 d3 d4;clear bb
            go_simp
            refine hK.out _ _ (NoS.sb5 Q17) (fun hHeld=>?_);clear hK K
            (try simp only [Act.put,qA,qB,qC])
            refine wpAnyH_done (by kernel_rfl) ?_ _
            go_wp2
            go_meet;exact ⟨_,_,_,_,_,rfl,HFIN.out _ _ _ _ _ _ (NoS.fin (g1:=h0) (g2:=h1) (g3:=h2) (g4:=h3) Q17)⟩
           exact .nil
          exact .nil
         exact .nil
        exact .nil
       exact .nil
      refine .cons rfl (fun K hK=>?_) ?_
      ·have Q20:=NoS.made Q1
       go_simp
       refine hK.out _ _ (by first | exact NoS.sb Q20 | exact NoS.sb QD) (fun hHeld=>?_);clear hK K
       (try simp only [Act.put,qA,qB,qC])
       refine wpAnyH_ready (rs:=[7]) (by kernel_rfl) (by simp) ?_;refine .cons rfl (fun K hK=>?_) ?_
       ·go_simp
        (go_at_call 13; (with_reducible refine (HNO.out _ _ _ _ H256.out.1 Q20).mono ?_))
        rintro e w2 ⟨h1,rfl,Q21⟩
        go_wp2_with fail
        refine hK.out _ _ (NoS.sb Q21) (fun hHeld=>?_);clear hK K
        (try simp only [Act.put,qA,qB,qC])
        refine wpAnyH_ready (rs:=[11]) (by kernel_rfl) (by simp) ?_;refine .cons rfl (fun K hK=>?_) ?_
        ·go_simp
         (go_at_call 13; (with_reducible refine (HNO.out _ _ _ _ H256.out.2 Q21).mono ?_))
         rintro e w2 ⟨h2,rfl,Q22⟩
         go_wp2_with fail
         refine hK.out _ _ (NoS.sb Q22) (fun hHeld=>?_);clear hK K
         (try simp only [Act.put,qA,qB,qC])
         refine wpAnyH_ready (rs:=[15]) (by kernel_rfl) (by simp) ?_;refine .cons rfl (fun K hK=>?_) ?_
         ·go_simp
          (go_at_call 13; (with_reducible refine (HNO.out _ _ _ _ H256.out.2 Q22).mono ?_))
          rintro e w2 ⟨h3,rfl,Q23⟩
          go_wp2_with fail
          refine hK.out _ _ (NoS.sb Q23) (fun hHeld=>?_);clear hK K
          (try simp only [Act.put,qA,qB,qC])
          refine wpAnyH_ready (rs:=[16]) (by kernel_rfl) (by simp) ?_;refine .cons rfl (fun K hK=>?_) ?_
          ·go_simp
           refine hK.out _ _ (NoS.sb Q23) (fun hHeld=>?_);clear hK K
           (try simp only [Act.put,qA,qB,qC])
           refine wpAnyH_ready (rs:=[18]) (by kernel_rfl) (by simp) ?_;refine .cons rfl (fun K hK=>?_) ?_
           ·have bb:=(Q23.out.box _ rfl).2;have hlb:=bb.lt;simp only [Zh0] at bb;obtain ⟨f0,f1,f2,f3,f4⟩:=bb.z5;obtain ⟨d0,d1,d2,d3,d4⟩:=bb.c5;simp at d0 d1 d2 d3 d4;clear bb
            go_simp
            refine hK.out _ _ (NoS.sb5 Q23) (fun hHeld=>?_);clear hK K
            (try simp only [Act.put,qA,qB,qC])
            refine wpAnyH_done (by kernel_rfl) ?_ _
            go_wp2
            go_meet;exact ⟨_,_,_,_,_,rfl,HFIN.out _ _ _ _ _ _ (NoS.fin (g1:=h0) (g2:=h1) (g3:=h2) (g4:=h3) Q23)⟩
           exact .nil
          exact .nil
         exact .nil
        exact .nil
       exact .nil
      exact .nil
     refine .cons rfl (fun K hK=>?_) ?_
     ·have Q26:=NoS.made Q
      go_simp
      refine hK.out _ _ (by first | exact NoS.sb Q26 | exact NoS.sb QD) (fun hHeld=>?_);clear hK K
      (try simp only [Act.put,qA,qB,qC])
      have QX:=QD;refine wpAnyH_ready (rs:=[3]) (by kernel_rfl) (by simp) ?_;refine .cons rfl (fun K hK=>?_) ?_
      ·go_simp
       (go_at_call 13; (with_reducible refine (HNO.out _ _ _ _ H256.out.1 QX).mono ?_))
       rintro e w2 ⟨h0,rfl,Q27⟩
       go_wp2_with fail
       refine hK.out _ _ (NoS.sb Q27) (fun hHeld=>?_);clear hK K
       (try simp only [Act.put,qA,qB,qC])
       refine wpAnyH_ready (rs:=[7]) (by kernel_rfl) (by simp) ?_;refine .cons rfl (fun K hK=>?_) ?_
       ·go_simp
        (go_at_call 13; (with_reducible refine (HNO.out _ _ _ _ H256.out.1 Q27).mono ?_))
        rintro e w2 ⟨h1,rfl,Q28⟩
        go_wp2_with fail
        refine hK.out _ _ (NoS.sb Q28) (fun hHeld=>?_);clear hK K
        (try simp only [Act.put,qA,qB,qC])
        refine wpAnyH_ready (rs:=[11]) (by kernel_rfl) (by simp) ?_;refine .cons rfl (fun K hK=>?_) ?_
        ·go_simp
         (go_at_call 13; (with_reducible refine (HNO.out _ _ _ _ H256.out.2 Q28).mono ?_))
         rintro e w2 ⟨h2,rfl,Q29⟩
         go_wp2_with fail
         refine hK.out _ _ (NoS.sb Q29) (fun hHeld=>?_);clear hK K
         (try simp only [Act.put,qA,qB,qC])
         refine wpAnyH_ready (rs:=[15]) (by kernel_rfl) (by simp) ?_;refine .cons rfl (fun K hK=>?_) ?_
         ·go_simp
          (go_at_call 13; (with_reducible refine (HNO.out _ _ _ _ H256.out.2 Q29).mono ?_))
          rintro e w2 ⟨h3,rfl,Q30⟩
          go_wp2_with fail
          refine hK.out _ _ (NoS.sb Q30) (fun hHeld=>?_);clear hK K
          (try simp only [Act.put,qA,qB,qC])
          refine wpAnyH_ready (rs:=[16]) (by kernel_rfl) (by simp) ?_;refine .cons rfl (fun K hK=>?_) ?_
          ·go_simp
           refine hK.out _ _ (NoS.sb Q30) (fun hHeld=>?_);clear hK K
           (try simp only [Act.put,qA,qB,qC])
           refine wpAnyH_ready (rs:=[18]) (by kernel_rfl) (by simp) ?_;refine .cons rfl (fun K hK=>?_) ?_
           ·have bb:=(Q30.out.box _ rfl).2;have hlb:=bb.lt;simp only [Zh0] at bb;obtain ⟨f0,f1,f2,f3,f4⟩:=bb.z5;obtain ⟨d0,d1,d2,d3,d4⟩:=bb.c5;simp at d0 d1 d2 d3 d4;clear bb
            go_simp
            refine hK.out _ _ (NoS.sb5 Q30) (fun hHeld=>?_);clear hK K
            (try simp only [Act.put,qA,qB,qC])
            refine wpAnyH_done (by kernel_rfl) ?_ _
            go_wp2
            go_meet;exact ⟨_,_,_,_,_,rfl,HFIN.out _ _ _ _ _ _ (NoS.fin (g1:=h0) (g2:=h1) (g3:=h2) (g4:=h3) Q30)⟩
           exact .nil
          exact .nil
         exact .nil
        exact .nil
       exact .nil
      exact .nil
     exact .nil
    case rest =>
     obtain ⟨bs,g1,g2,g3,g4,rfl,S5,P5⟩:=hcut;have hws:=S.out.bel.size;have hws2:=S.out.res.lt;clear S hgl hbol hrbl hlt2 e0 e1 e2 e3 e4 e5 e6 e7 e8 e9 e10
     obtain ⟨p,hp⟩:∃ p,Zh k b=p:=⟨_,rfl⟩
     obtain ⟨outs,houts⟩:∃ o,ZbB k b=o:=⟨_,rfl⟩
     have HP:=Lh hp;have HOUTS:=Lh houts;rw [hp,houts] at S5;have kf:=HKF2.out;have hbr:=Zf0 kf (b:=b) (by rw [HNP.out]; exact hbm);rw [hp] at hbr;have hall:=kf.all hbr;have hsm:=kf.small hbr;rw [HNC.out] at hall;have HALL:=Lh hall;have HSM:=Lh hsm;have hob:p.all Zdn:=KP.all_imp (fun x hx=>Zd0 hx) p hall;have HOB:=Lh hob
     have hpin0:∀ W,k.In W B→p.In W B:=fun W h=>by
      rcases hbr with rfl | h2
      ·exact h.2.2.1
      ·exact h.2.2.1.part h2
     have HPIN:=Lh hpin0
     have hol:outs.length=nc:=by rw [← houts,Zhw,HNC.out]
     have HOL:=Lh hol;clear hp houts hbr hall hsm hob hpin0 hol kf
     obtain ⟨W6,hW6⟩:∃ W6,(wc.alloc (.cells #[.slice none 0 0,.slice none 0 0,.slice none 0 0] 57)).alloc (.cells #[.pointer (some ⟨wc.heap.size,0,none⟩)] 54)=W6:=⟨_,rfl⟩
     have hk6:Below wc.heap.size wc W6:=by rw [← hW6]; exact ((Below.refl _ _).alloc (Nat.le_refl _) _).alloc (by simp) _
     have bpl6:Blk W6 wc.heap.size 57 #[.slice none 0 0,.slice none 0 0,.slice none 0 0]:=by rw [← hW6]; exact (Blk.new _ _ _).alloc _
     have bbp6:Blk W6 (wc.heap.size+1) 54 #[.pointer (some ⟨wc.heap.size,0,none⟩)]:=by rw [← hW6]; have:=Blk.new (wc.alloc (.cells #[.slice none 0 0,.slice none 0 0,.slice none 0 0] 57)) 54 #[.pointer (some ⟨wc.heap.size,0,none⟩)]; rwa [World.size_alloc] at this
     have HK6:=Lh hk6;have HBPL:=Lh bpl6;have HBBP:=Lh bbp6;have HPR:=Lh (ZnK p wc.heap.size W6);have x1:=S5.out.root;have hlr:=x1.lt;simp only [KP.cells] at x1 HPR;obtain ⟨d0,d1,d2,d3,d4,d5,d6,d7⟩:=x1.c8;simp at d0 d1 d2 d3 d4 d5 d6 d7;have x2:=bbp6;have c0:=x2.cell 0;simp at c0;have hlc:=x2.lt;have hr6:=S5.out.root.call hk6;have hlr6:=hr6.lt;simp only [KP.cells] at hr6;clear d0 d1 d2 d3 d4 d5 d6 d7;obtain ⟨d0,d1,d2,d3,d4,d5,d6,d7⟩:=hr6.c8;simp at d0 d1 d2 d3 d4 d5 d6 d7;clear x1 x2 hr6 hk6 bpl6 bbp6
     go_wp2_with (go_at_call 14; (with_reducible refine HPR.out.mono ?_); rintro e1 w7 ⟨q0,q1,rfl,hq0,hq1,K7,G0,G1⟩)
     clear d0 d1 d2 d3 d4 d5 d6 d7 c0 hlc hlr hlr6 HPR;have hk7:Below wc.heap.size wc w7:=HK6.out.trans (K7.out.mono HK6.out.size);have S7:=Lh (S5.out.call hk7);have hwc:=S5.out.bel.size;have hlo:=P5.out.lo;have hkin7:k.In w7 B:=HIN.out.below (S7.out.bel.mono hB);have hsz7:=S7.out.bel.size
     have MK:MkK k p B w7.heap.size wc.heap.size bo go bs g1 g2 g3 g4 nv nc q0 q1 outs w7 :=
      ⟨rfl,by omega,hkin7,HPIN.out,by rw [← HNC.out] at *; exact HALL.out,HSM.out,HQ.out.below (S7.out.bel.mono hB) hqB,hqB,HBPL.out.call K7.out,HBBP.out.call K7.out,S7.out.bo,S7.out.bg,P5.out.xbs.call hk7,P5.out.x1.call hk7,P5.out.x2.call hk7,P5.out.x3.call hk7,P5.out.x4.call hk7,P5.out.ne,G0.out,G1.out,HNV.out,HOL.out,hnv,hnc,by omega⟩
     obtain ⟨bw,hbwe⟩:∃ m,wc.heap.size=m:=⟨_,rfl⟩
     obtain ⟨S0,hS0⟩:∃ m,w7.heap.size=m:=⟨_,rfl⟩
     rw [hbwe,hS0] at MK;rw [hbwe];have HMK7:=Lh MK;have hlt:=MK.lt;have hsm:=MK.sm;have HS0:=Lh hS0
     have hwb:w.heap.size≤bw:=by omega
     have hwg:w.heap.size+1 < bs∧w.heap.size≤bw∧w.heap.size≤g1∧w.heap.size≤g2∧w.heap.size≤g3∧w.heap.size≤g4:=by omega
     clear hkin7 hlo hwc hbwe hk7 HBPL HBBP K7 HK6 S5 P5 G0 G1
     refine wpIn_wide.1 (ZcL (F:=Fence.wide) (n:=9) rfl rfl (gf:=41) (lb:=#[.pointer (some ⟨q0,0,none⟩),.pointer (some ⟨q1,0,none⟩)]) rfl trivial (enters_of Tryz.func41 (by kernel_rfl) rfl)
      (ZkH p HOB.out q0 q1 B S0 bw 8 (ZJ Zf) w7 hlt.1 (Nat.le_of_eq hS0.symm) MK.bpl (MK.proc MK.start) MK.hB (fun us f h=>Zjz Zf h) (by omega) (by omega)) (Nat.le_of_eq hS0.symm) (fun s a b h k=>h.keepC k) (Below.refl _ _) (fun _=>rfl)
      (MkJ S0 bw g2 g4 nv nc (Zd p).par outs w7) ?deep (fun pre a h=>MK.proc h) MK.start ?round ?done)
     case deep=>exact fun pre a b h k=>h.deep ⟨hlt.2.1,hlt.2.2.2.1⟩ ⟨hlt.2.2.1,hlt.2.2.2.2⟩ k
     case round =>
      clear MK hS0;rintro l s x r W hi hat ⟨htree,hx2,hpre⟩ hxs hsW;obtain ⟨q,f⟩:=x
      simp only at hx2
      have HXS:=Lh hxs;have HTR:=Lh htree;have HPRE:=Lh hpre;have HI:=Lh hi;have HAT:=Lh hat;clear hi hat htree hpre hxs;simp only [Zpp,KP.cells]
      gi_wp2
      obtain ⟨WA,hWA⟩:∃ WA,(W.alloc (.cells q.cells 31)).alloc (.cells #[.int .i64 f] 3)=WA:=⟨_,rfl⟩
      have bx:Blk WA W.heap.size 31 q.cells:=by rw [← hWA]; exact (Blk.new _ _ _).alloc _
      have bf:Blk WA (W.heap.size+1) 3 #[.int .i64 f]:=by rw [← hWA]; have:=Blk.new (W.alloc (.cells q.cells 31)) 3 #[.int .i64 f]; rwa [World.size_alloc] at this
      have kA:Below W.heap.size W WA:=by rw [← hWA]; exact ((Below.refl _ _).alloc (Nat.le_refl _) _).alloc (by simp) _
      have kAc:Z0 (XS S0 bw s) W WA:=by rw [← hWA]; exact (Z0.alloc _ _ _).trans (Z0.alloc _ _ _)
      have kAd:Z0 (fun _=>False) W WA:=by rw [← hWA]; exact (Z0.alloc _ _ _).trans (Z0.alloc _ _ _)
      simp only [KP.cells] at hWA;rw [hWA];clear hWA;refine ⟨kAc,Zc9 kA,?_⟩;clear kAc;rintro W2 hgr ⟨hl0,hl1⟩ hk2;have hrw:=Zic HAT.out HI.out HMK7.out (by have:=HS0.out; omega) kA kAd hgr (by have:=HS0.out; omega) hk2;have bx2:Blk W2 W.heap.size 31 q.cells:=Zb8 hk2 (fun h=>h) bx;have bf2:Blk W2 (W.heap.size+1) 3 #[.int .i64 f]:=Zb8 hk2 (fun h=>h) bf;obtain ⟨hi2,hat2⟩:=hrw;have hWW2:W.heap.size+1 < W2.heap.size:=bf2.lt;clear bx bf kA kAd hgr hk2
      obtain ⟨bu,hbu⟩:∃ u,Zo6 (bw+1) bo bs W2.heap.size (W.heap.size+1)=u:=⟨_,rfl⟩
      obtain ⟨W3,hW3⟩:∃ W3,(W2.alloc (.cells #[.int .i64 1] 3)).alloc (.cells bu.cells 69)=W3:=⟨_,rfl⟩
      have k3:Below W2.heap.size W2 W3:=by rw [← hW3]; exact ((Below.refl _ _).alloc (Nat.le_refl _) _).alloc (by simp) _
      have bn3:Blk W3 W2.heap.size 3 #[.int .i64 1]:=by rw [← hW3]; exact (Blk.new _ _ _).alloc _
      have bu3:Blk W3 (W2.heap.size+1) 69 bu.cells:=by rw [← hW3]; have:=Blk.new (W2.alloc (.cells #[.int .i64 1] 3)) 69 bu.cells; rwa [World.size_alloc] at this
      have hmem:(q,f)∈(Zd p).uses:=by rw [HXS.out]; simp
      have hS2:S0≤W2.heap.size:=hat2.hi;have hba:=HMK7.out.body hi2 hat2 HTR.out hx2 HPRE.out hmem (bf:=W.heap.size+1) (by have:=HS0.out; omega) bf2 k3 bn3;have hlo7:=HMK7.out.lo;have hB7:=HMK7.out.hB;have hs3:=k3.size;have hc:=ZiM q bu (fun W'=>Zl W3.heap.size (fun k=>k=g2∨k=g4∨k=W2.heap.size) W3 W') W3.heap.size B (Zf7 g2 g4 W2.heap.size f (Zd p).par outs (Zhh (Zd p).par s.pl.uses (List.replicate nv (-1))) (Zcv outs s.pl.uses (List.replicate nc (-1))) W3) (evP q) [] [] W3 (by rw [← hbu]; exact ZnE hba) (fun W' hW=>hba.hin.below (hW.below hba.hB fun k hk=>by omega)) hba.hB (Zf7.start hba) (by simp);have HC:=Lh hc;have HBA:=Lh hba;have HK3:=Lh k3;have HI2:=Lh hi2;have bx3:=bx2.call k3;have bb3:=hba.xbp;subst hbu;simp only [UsL.cells,Zo6] at bu3 HC hW3;simp only [KP.cells] at bx3 HC
      have c2:=(HMK7.out.stay hi2 HMK7.out.bbp (by decide) (by decide))
      have hlc2:=c2.lt;have hlu:=bu3.lt;have hlx:=bx3.lt;obtain ⟨u0,u1,u2⟩:=bu3.c3;simp at u0 u1 u2;obtain ⟨d0,d1,d2,d3,d4,d5,d6,d7⟩:=bx3.c8;simp at d0 d1 d2 d3 d4 d5 d6 d7;clear bx2 bf2 k3 bn3 hba hc hi2 hat2 bu3 bx3 bb3 c2 hmem hs3
      gi_wp2_with (refine ⟨trivial,?_⟩; gi_at_call 20; refine (callsIn_wide.2 HC.out).mono ?_; rintro e1 w4 ⟨rfl,hI4,-⟩
                   have HI4:=Lh hI4
                   clear hI4)
      obtain ⟨gt,cap,hvt,ta,hp4⟩:=HMK7.out.tmp HBA.out HI4.out ⟨r,by rw [HXS.out,List.append_assoc]; rfl⟩;have hleft:=HMK7.out.left HI2.out (by omega) HK3.out HI4.out hvt hp4 hx2;have HLEFT:=Lh hleft;obtain ⟨x1,x2,x3,x4,d0,f0,hgl,hfn,hsm1,hsm2,hsm3⟩:=ta;have hgtW:S0≤gt∧gt < W.heap.size:=HAT.out.tm.lt gt (by rw [hvt]; rfl)
      have hbw1:bw+1 < S0:=by have:=HMK7.out.bbp.lt; have:=HS0.out; omega
      clear hvt hp4 hleft;generalize ZJ Zf s.pl.uses f=tn at *;generalize Zal Zf q=wn at *;generalize s.pl.par.length=n at *;have hlx1:=x1.lt;have hlx2:=x2.lt;have hlx3:=x3.lt;have hlx4:=x4.lt;have c0:=x1.cell 0;simp at c0;obtain ⟨e0,e1,e2⟩:=x2.c3;simp at e0 e1 e2;have a0:=x3.cell 0;simp at a0;have y0:=x4.cell 0;simp at y0;have X1:=Lh x1;have X2:=Lh x2;have X3:=Lh x3;have X4:=Lh x4;clear x1 x2 x3 x4 HC
      have hfi:(f:Int) < n:=by omega
      clear hlt hsm hwb hwg hsW hl0 hl1 hS2 hlo7 hB7 hws hws2 hsz7 hvl hcl hpl hrl hnp hnl hnv hnc hnc2 hneg hbig hbm hqB hB hgw hne1 hne2 hsz1 hi0 hz0 hz1 hz2 u0 u1 u2 d1 d2 d3 d4 d5 d6 d7 hlc2 hlu hlx e0 e2;have HSM:Hid (max (tn:Int) (wn:Int)=((max tn wn:Nat):Int)):=Lh (by omega)
      have hS4:w4.cell? ⟨bw+1,0,none⟩=some (.pointer (some ⟨bw,0,none⟩))∧w4.cell? ⟨bw,1,none⟩=some (.slice (some ⟨gt,0,none⟩) n cap)∧w4.cell? ⟨W2.heap.size,0,none⟩=some (.int .i64 wn)∧w4.cell? ⟨W.heap.size+1,0,none⟩=some (.int .i64 f):=⟨c0,e1,a0,y0⟩
      have HSS:Hid ((w4.setCell ⟨gt,f,none⟩ (.int .i64 ((max tn wn:Nat):Int))).drew.cell? ⟨bw+1,0,none⟩=some (.pointer (some ⟨bw,0,none⟩))∧(w4.setCell ⟨gt,f,none⟩ (.int .i64 ((max tn wn:Nat):Int))).drew.cell? ⟨bw,1,none⟩=some (.slice (some ⟨gt,0,none⟩) n cap)∧(w4.setCell ⟨gt,f,none⟩ (.int .i64 ((max tn wn:Nat):Int))).drew.cell? ⟨W2.heap.size,0,none⟩=some (.int .i64 wn)∧(w4.setCell ⟨gt,f,none⟩ (.int .i64 ((max tn wn:Nat):Int))).drew.cell? ⟨W.heap.size+1,0,none⟩=some (.int .i64 f)):=Lh (by
       have q1:=(Zk (p:=⟨gt,f,none⟩) (v:=.int .i64 ((max tn wn:Nat):Int)) X1.out (by show bw+1≠gt; omega)).cell 0;have q2:=(Zk (p:=⟨gt,f,none⟩) (v:=.int .i64 ((max tn wn:Nat):Int)) X2.out (by show bw≠gt; omega)).cell 1;have q3:=(Zk (p:=⟨gt,f,none⟩) (v:=.int .i64 ((max tn wn:Nat):Int)) X3.out (by show W2.heap.size≠gt; omega)).cell 0;have q4:=(Zk (p:=⟨gt,f,none⟩) (v:=.int .i64 ((max tn wn:Nat):Int)) X4.out (by show W.heap.size+1≠gt; omega)).cell 0
       exact ⟨q1,q2,q3,q4⟩)
      refine Zew (fun w'=>w'.cell? ⟨bw+1,0,none⟩=some (.pointer (some ⟨bw,0,none⟩))∧w'.cell? ⟨bw,1,none⟩=some (.slice (some ⟨gt,0,none⟩) n cap)∧w'.cell? ⟨W2.heap.size,0,none⟩=some (.int .i64 wn)∧w'.cell? ⟨W.heap.size+1,0,none⟩=some (.int .i64 f)) [0,1,2,3,4,5,6,7,8,9,10,12] 4 (listed:=#[true,true,true,true,true,true,true,true,true,true,true,false,true,false,false,false]) (fun i o ho=>?calm) (by kernel_rfl) (by kernel_rfl) (by kernel_rfl) (by kernel_rfl) (by kernel_rfl) hS4 (fun R hR=>?_)
      case calm=>(match i,ho with | 0,ho=>(cases ho; intro c hc; cases hc) | 1,ho=>(cases ho; intro c hc; cases hc) | 2,ho=>(cases ho; intro c hc; cases hc) | 3,ho=>(cases ho; intro c hc; cases hc) | 4,ho=>(cases ho; intro c hc; cases hc) | 5,ho=>(cases ho; intro c hc; cases hc) | 6,ho=>(cases ho; intro c hc; cases hc) | 7,ho=>(cases ho; intro c hc; cases hc) | 8,ho=>(cases ho; intro c hc; cases hc) | 9,ho=>(cases ho; intro c hc; cases hc) | 10,ho=>(cases ho; intro c hc; cases hc) | 11,ho=>(cases ho; intro c hc; cases hc) | 12,ho=>(cases ho; intro c hc; cases hc) | 13,ho=>(cases ho; intro c hc; cases hc) | 14,ho=>(cases ho; intro c hc; cases hc) | 15,ho=>(cases ho; intro c hc; cases hc) | k+16,ho=>(cases ho))
      simp only [List.filterMap_cons,List.filterMap_nil,List.getElem?_toArray,List.getElem?_cons_succ,List.getElem?_cons_zero]
      iterate 12
       refine Zc (v:=?_) rfl (fun w hSw=>?_) ?_
       rotate_left
       ·(try dsimp only at hSw); obtain ⟨hs1,hs2,hs3,hs4⟩:=hSw; go_simp; all_goals with_reducible rfl
       (try simp only [Act.put,qA,qB,qC])
      refine Zco (hR _ ?_);clear hR R;refine wpAnyH_ready (rs:=[11]) (by kernel_rfl) (by simp) ?_;refine .cons rfl (fun K hK=>?_) AllReadyH.nil
      go_simp
      refine hK.out _ _ hS4 (fun hHeld=>?_);clear hK K
      (try simp only [Act.put,qA,qB,qC])
      refine wpAnyH_ready (rs:=[13]) (by kernel_rfl) (by simp) ?_;refine .cons rfl (fun K hK=>?_) AllReadyH.nil
      go_simp
      refine hK.out _ _ hS4 (fun hHeld=>?_);clear hK K
      (try simp only [Act.put,qA,qB,qC])
      refine wpAnyH_ready (rs:=[14]) (by kernel_rfl) (by simp) ?_;refine .cons rfl (fun K hK=>?_) AllReadyH.nil
      go_simp
      refine hK.out _ _ hS4 (fun hHeld=>?_);clear hK K
      (try simp only [Act.put,qA,qB,qC])
      refine wpAnyH_ready (rs:=[15]) (by kernel_rfl) (by simp) ?_;refine .cons rfl (fun K hK=>?_) AllReadyH.nil
      go_simp
      rw [HSM.out];refine hK.out _ _ HSS.out (fun hHeld=>?_);clear hK K
      (try simp only [Act.put,qA,qB,qC])
      refine wpAnyH_done (by kernel_rfl) ?_ _
      gi_wp2
      exact ⟨HLEFT.out.1,HLEFT.out.2.1,HLEFT.out.2.2.1,HLEFT.out.2.2.2⟩
     case done =>
      rintro Dn s W hj hat hs hf hK hDn;have kf:=HKF2.out;obtain ⟨gf,gt,cf,ct,hvf,hgf,hla⟩:=HMK7.out.lay hj hat hf kf.dims;have HLAY:=Lh (sLay k B S0 bw bs gf gt g1 g2 g3 g4 (Zd p).par.length nv nc cf ct nv nv nc nc (ZJ Zf) s (Zd5 p nv) (Ze8 p outs nc) (.slice none 0 0) W hla);have z1:=HMK7.out.stay hj HMK7.out.bbp (by decide) (by decide);have z2:=hat.blk;rw [hvf] at z2;have z3:=HMK7.out.stay hj S7.out.kb (by decide) (by decide);have z4:=HMK7.out.stay hj S7.out.res (by decide) (by decide);have z5:=HMK7.out.stay hj HMK7.out.xbs (by decide) (by decide);have hWs:=hat.hi;have hpos:0 < (Zd p).par.length:=(Zas p).pos;have hfl:gf < W.heap.size:=hat.fr.lt gf (by rw [hvf]; rfl) |>.2;have y1:=hla.x1;have y3:=hla.x3;have HLA:=Lh hla;have HJ:=Lh hj;have HZ1:=Lh z1;have HZ2:=Lh z2;have HZ4:=Lh z4;have HZ5:=Lh z5;have HFS:=Lh hf;have HY1:=Lh y1;have HY3:=Lh y3
      obtain ⟨vt,hvt⟩:∃ v,s.vt=v:=⟨_,rfl⟩
      obtain ⟨vg,hvg⟩:∃ v,s.vg=v:=⟨_,rfl⟩
      rw [hvt,hvg] at HZ2 z2
      obtain ⟨n,hn⟩:∃ m,(Zd p).par.length=m:=⟨_,rfl⟩
      have HN:=Lh hn;rw [hn] at HZ2 z2 hpos;simp only [KK.flat,HNV.out,HNC.out,HNP.out,HNL.out,HPL.out] at HLAY;have hl1:=z1.lt;have hl3:=z3.lt;have c0:=z1.cell 0;simp at c0;obtain ⟨e0,e1,e2,e3,e4,e5,e6,e7,e8,e9,e10⟩:=z3.c11;simp at e0 e1 e2 e3 e4 e5 e6 e7 e8 e9 e10;clear z1 z2 z3 z4 z5 y1 y3 hla hj hat hs hf hvf hvt hvg hn kf
      go_wp2_with (go_at_call 21; (with_reducible refine HLAY.out.mono ?_); rintro e1 w9 ⟨rfl,hbl,hfr,hb1,hb3⟩
                   have far:∀ {g:Nat} {t:TypeId} {cs:Array Value},Blk W g t cs→t≠3→t≠74→Blk w9 g t cs:=fun hg n1 n2=>hbl.blk hg hg.lt fun hX=>by
                    rcases hX with e | e | e
                    ·subst e; obtain ⟨cc,hcc⟩:=ZN HLA.out.hpl.fr (k:=_) (by rw [HLA.out.hvf]; rfl); exact hg.ne_ hcc n2 rfl
                    ·exact hg.ne_ HY1.out n1 e
                    ·exact hg.ne_ HY3.out n1 e
                   have z1:=far HZ1.out (by decide) (by decide);have z2:=far HZ2.out (by decide) (by decide);have z4:=far HZ4.out (by decide) (by decide);have z5:=far HZ5.out (by decide) (by decide);have HW4:=Lh z4;have HW5:=Lh z5;have HBL:=Lh hbl;have HFR:=Lh hfr;have HB1:=Lh hb1;have HB3:=Lh hb3;have hm1:=z1.lt;have hm2:=z2.lt;have hm4:=z4.lt;have hm5:=z5.lt;have u0:=z1.cell 0;simp at u0;obtain ⟨v0,v1,v2⟩:=z2.c3;simp at v0 v1 v2;obtain ⟨y0,y1,y2,y3,y4⟩:=z5.c5;simp at y0 y1 y2 y3 y4;obtain ⟨xf0,xf1,xf2,xf3,xf4⟩:=z5.z5;simp only [Zdb] at z4;obtain ⟨a0,a1,a2,a3,a4⟩:=z4.c5;simp at a0 a1 a2 a3 a4;obtain ⟨b0,b1,b2,b3,b4⟩:=z4.z5;have hlast:=HMK7.out.last HJ.out HLA.out HFS.out HP.out HOUTS.out HN.out S7.out.bel S7.out.res hwg hgf hbl hfr hb1 hb3 hK (by have:=HS0.out; omega);have HLAST:=Lh hlast;have hg0:=hfr.lt
                   clear z1 z2 z4 z5 far hbl hfr hb1 hb3 hlast)
      obtain ⟨ME,x0,hx0,htall⟩:=HLAST.out;obtain ⟨a0,a1,a2,a3,a4⟩:=ME.fr.cell hx0;simp only [Nat.zero_mul,Nat.zero_add] at a0 a1 a2 a3 a4;have HME:=Lh ME;have HTALL:=Lh htall;have zx:=ME.xbs;rw [HP.out,HN.out] at zx;have t0:=zx.cell 0;simp at t0;have hgf9:gf < (w9.setCell ⟨bs,0,none⟩ (.slice (some ⟨gf,0,none⟩) n cf)).drew.heap.size:=ME.fr.lt;have hbs9:bs < (w9.setCell ⟨bs,0,none⟩ (.slice (some ⟨gf,0,none⟩) n cf)).drew.heap.size:=zx.lt;clear ME hx0 zx u0 v0 v1 v2 y0 y1 y2 y3 y4 a0 a1 a4
      have hHT:∀ q,decide (16384 < wrap64 (x0.above+x0.below))=q→(if q then (ZaJ,240) else (Zs k b,0))=RS:=fun q hq=>by rw [← hq,← htall]; exact HRS2.out
      have HHT:=Lh hHT;clear hHT htall;clear hlt hsm hwb hwg hws hws2 hsz7 hvl hcl hpl hrl hnp hnl hnv hnc hnc2 hneg hbig hqB hB hgw hne1 hne2 hsz1 hi0 hz0 hz1 hz2;refine Za5 ?_
      go_region
      go_upto_if 134 with fail
      generalize hq16:decide (16384 < wrap64 (x0.above+x0.below))=q16;have HQ16:=Lh hq16;clear hq16
      cases q16 with
      | true =>
        have HE:Hid (RS=(ZaJ,240)):=Lh (by rw [← HHT.out _ HQ16.out]; rfl);generalize (w9.setCell ⟨bs,0,none⟩ (.slice (some ⟨gf,0,none⟩) n cf)).drew=w11 at *;have zr:=HME.out.res;have hzr:=zr.lt;simp only [Zdb] at zr;clear t0 a2 a3 xf0 xf1 xf2 xf3 xf4 b0 b1 b2 b3 b4;obtain ⟨a0,a1,a2,a3,a4⟩:=zr.c5;simp at a0 a1 a2 a3 a4;obtain ⟨b0,b1,b2,b3,b4⟩:=zr.z5;clear zr
        go_wp2_with fail
        have hE:=HME.out.none (n:=240);rw [HE.out];refine ⟨by simp,.inl ⟨_,_,rfl,run_takeDeferred hE.1,?_⟩⟩;exact ⟨_,Ze rfl _ _ (w.heap.size+1) _ Zdb (0,0) _ (.int .i64 240) rfl rfl (hE.2 _).1 Tryz.underlying38 rfl ZaO,(hE.2 _).2⟩
      | false =>
        have HE:Hid (RS=(Zs k b,0)):=Lh (by rw [← HHT.out _ HQ16.out]; rfl);generalize (w9.setCell ⟨bs,0,none⟩ (.slice (some ⟨gf,0,none⟩) n cf)).drew=w11 at *;have zr:=HME.out.res;have hzr:=zr.lt;have zx:=HME.out.xbs;rw [HP.out,HN.out,HNV.out,HNC.out] at zx;simp only [Zdb] at zr;clear t0 a2 a3 xf0 xf1 xf2 xf3 xf4 b0 b1 b2 b3 b4;obtain ⟨a0,a1,a2,a3,a4⟩:=zr.c5;simp at a0 a1 a2 a3 a4;obtain ⟨b0,b1,b2,b3,b4⟩:=zr.z5;obtain ⟨t0,t1,t2,t3,t4⟩:=zx.c5;simp at t0 t1 t2 t3 t4;clear zr zx;have hbr:=Zf0 HKF2.out (b:=b) (by rw [HNP.out]; exact hbm);have HBRI:=Lh hbr;clear hbr
        go_wp2_with fail
        have hE:=HME.out.some HKF2.out HBRI.out (v0:=.slice (some ⟨gf,0,none⟩) n cf) (v1:=.slice (some ⟨g1,0,none⟩) nv nv) (v2:=.slice (some ⟨g2,0,none⟩) nv nv) (v3:=.slice (some ⟨g3,0,none⟩) nc nc) (v4:=.slice (some ⟨g4,0,none⟩) nc nc) (by rw [HP.out,HN.out,HNV.out,HNC.out]);rw [HE.out];refine ⟨by simp,.inl ⟨_,_,rfl,run_takeDeferred hE.1,?_⟩⟩;exact ⟨_,Ze rfl _ _ (w.heap.size+1) _ #[.slice (some ⟨gf,0,none⟩) n cf,.slice (some ⟨g1,0,none⟩) nv nv,.slice (some ⟨g2,0,none⟩) nv nv,.slice (some ⟨g3,0,none⟩) nc nc,.slice (some ⟨g4,0,none⟩) nc nc] (0,0) _ (.int .i64 0) rfl rfl (hE.2 _).1 Tryz.underlying38 rfl ZaO,(hE.2 _).2⟩
end
end Go.Proofs.YtjndhfcfcedheaaGreatDoor
