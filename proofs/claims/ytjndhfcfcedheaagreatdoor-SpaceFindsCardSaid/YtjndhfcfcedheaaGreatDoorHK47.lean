/- Texts that belong together: WH. -/
import Derived.Test.YtjndhfcfcedheaaGreatDoorHK36
import Derived.Test.YtjndhfcfcedheaaGreatDoorHK46
set_option linter.unusedVariables false
set_option linter.unusedSimpArgs false
set_option maxRecDepth 100000
set_option maxHeartbeats 16000000
namespace Go.Proofs.YtjndhfcfcedheaaGreatDoor
open Go.RowKit
section
attribute [local go_sem] Oper.semAt_some
theorem Zot (k:KK) (branch:Int) (B:Nat) (w:World) (hin:k.In w B) (hB:B≤w.heap.size) (hb64:Zy branch) :
  Calls Tryz.prog 6 #[.agg k.flat,.int .i64 branch] w (ZeQ (Zcs k branch) w):=by
 obtain ⟨W0,hW0⟩:∃ W0,(w.alloc (.cells k.flat 34)).alloc (.cells Zdb 38)=W0:=⟨_,rfl⟩
 have K0:Hid (Below w.heap.size w W0):=Lh (by rw [← hW0]; exact ((Below.refl _ _).alloc (Nat.le_refl _) _).alloc (by simp) _);have HKB:Hid (Blk W0 w.heap.size 34 k.flat):=Lh (by rw [← hW0]; exact (Blk.new _ _ _).alloc _);have HRB:Hid (Blk W0 (w.heap.size+1) 38 Zdb):=Lh (by rw [← hW0]; have:=Blk.new (w.alloc (.cells k.flat 34)) 38 Zdb; rwa [World.size_alloc] at this);have HMAY:=Lh (ZpE k B W0 (hin.below (K0.out.mono hB)) (Nat.le_trans hB K0.out.size));have HIN:=Lh hin;have HKF:Hid (Zfd k=true→Za9 k):=Lh ZgB;have hpl:=hin.2.2.2.1;have hvl:=hin.1.1;have hcl:=hin.2.1.1;have hrl:=hin.2.2.1.one.1.2.2.2.2.2;unfold ZB at hpl hvl hcl hrl
 obtain ⟨nv,hnv⟩:∃ m,k.vars.length=m:=⟨_,rfl⟩
 obtain ⟨nc,hnc⟩:∃ m,k.chans.length=m:=⟨_,rfl⟩
 obtain ⟨np,hnp⟩:∃ m,k.procs.length=m:=⟨_,rfl⟩
 obtain ⟨nl,hnl⟩:∃ m,k.root.l.length=m:=⟨_,rfl⟩
 obtain ⟨PL,hPL⟩:∃ m,k.root.Al=m:=⟨_,rfl⟩
 have HNV:=Lh hnv;have HNC:=Lh hnc;have HNP:=Lh hnp;have HNL:=Lh hnl;have HPL:=Lh hPL
 obtain ⟨RS,hRS⟩:∃ q,Zcs k branch=q:=⟨_,rfl⟩
 have HRS:=Lh hRS;rw [hRS]
 obtain ⟨mk,hmk⟩:∃ m,Zfd k=m:=⟨_,rfl⟩
 have HMK:=Lh hmk;rw [hmk] at HMAY;simp only [KK.flat,Zdb,hnv,hnc,hnp,hnl,hPL] at hW0 HMAY HKB HRB ⊢;rw [hnv] at hvl;rw [hnc] at hcl;rw [hnp] at hpl;rw [hnl] at hrl;unfold Zy at hb64;clear hin hnv hnc hnp hnl hPL hRS hmk;have b0:=HKB.out;have hlt0:=b0.lt;obtain ⟨e0,e1,e2,e3,e4,e5,e6,e7,e8,e9,e10⟩:=b0.c11;simp at e0 e1 e2 e3 e4 e5 e6 e7 e8 e9 e10;clear b0;go_enter Tryz.func6,Tryz.ntmps6
 go_upto_region 1 with fail
 cases mk with
 | false =>
   go_wp2_with (first
    | (go_at_call 22; (with_reducible refine HMAY.out.mono ?_); rintro e1 w1 ⟨rfl,K1⟩
       have b1:=HRB.out.call K1;have hlt1:=b1.lt;obtain ⟨f0,f1,f2,f3,f4⟩:=b1.z5;obtain ⟨d0,d1,d2,d3,d4⟩:=b1.c5;simp at d0 d1 d2 d3 d4;have HB1:=Lh b1;have HK1:=Lh K1
       clear b1 K1))
   have hst:=ZbY (K0.out.trans (HK1.out.mono K0.out.size)) HB1.out (Nat.le_succ _);have HE:Hid (RS=(ZaJ,2)):=Lh (by rw [← HRS.out]; unfold Zcs; rw [if_pos HMK.out])
   (try simp only [Exit.inBlock,Exit.then])
   refine bodyPost_ret (Ze rfl _ _ (w.heap.size+1) _ Zdb (0,0) _ (.int .i64 2) rfl rfl hst.2 Tryz.underlying38 rfl ZaO) rfl ?_;rw [HE.out];exact Zbe hst.1
 | true =>
   have kf:=HKF.out HMK.out
   go_upto_region 3 with (first
    | (go_at_call 22; (with_reducible refine HMAY.out.mono ?_); rintro e1 w1 ⟨rfl,K1⟩
       have b1:=HRB.out.call K1;have HB1:=Lh b1;have HK1:=Lh K1;have HKB1:=Lh (HKB.out.call K1)
       clear b1 K1))
   clear hW0 e0 e1 e2 e3 e4 e5 e6 e7 e8 e9 e10 HMAY hlt0;have b1:=HB1.out;have hlt1:=b1.lt;obtain ⟨f0,f1,f2,f3,f4⟩:=b1.z5;obtain ⟨d0,d1,d2,d3,d4⟩:=b1.c5;simp at d0 d1 d2 d3 d4;have b2:=HKB1.out;have hlt2:=b2.lt;obtain ⟨e0,e1,e2,e3,e4,e5,e6,e7,e8,e9,e10⟩:=b2.c11;simp at e0 e1 e2 e3 e4 e5 e6 e7 e8 e9 e10;clear b1 b2;have hnp:=kf.ps;rw [HNP.out,HNL.out] at hnp;have hnl:=kf.rl;rw [HNL.out] at hnl
   by_cases hneg:branch < 0
   ·have hst:=ZbY (K0.out.trans (HK1.out.mono K0.out.size)) HB1.out (Nat.le_succ _);have HST:=Lh hst;have HE:Hid (RS=(ZaJ,4)):=Lh (by rw [← HRS.out]; unfold Zcs; rw [HMK.out,if_neg (by simp),if_pos (.inl hneg)]);clear hst kf
    go_wp2_with fail
    (try simp only [Exit.inBlock,Exit.then])
    refine bodyPost_ret (Ze rfl _ _ (w.heap.size+1) _ Zdb (0,0) _ (.int .i64 4) rfl rfl HST.out.2 Tryz.underlying38 rfl ZaO) rfl ?_;rw [HE.out];exact Zbe HST.out.1
   by_cases hbig:max 1 (np:Int)≤branch
   ·have hst:=ZbY (K0.out.trans (HK1.out.mono K0.out.size)) HB1.out (Nat.le_succ _);have HST:=Lh hst;have HE:Hid (RS=(ZaJ,4)):=Lh (by rw [← HRS.out]; unfold Zcs; rw [HMK.out,if_neg (by simp),if_pos (.inr (by have:=HNP.out; omega))]);clear hst kf
    go_wp2_with fail
    (try simp only [Exit.inBlock,Exit.then])
    refine bodyPost_ret (Ze rfl _ _ (w.heap.size+1) _ Zdb (0,0) _ (.int .i64 4) rfl rfl HST.out.2 Tryz.underlying38 rfl ZaO) rfl ?_;rw [HE.out];exact Zbe HST.out.1
   obtain ⟨b,rfl⟩:∃ m:Nat,branch=m:=⟨branch.toNat,by omega⟩
   have hbm:b < max 1 np:=by omega
   have HRS2:Hid ((if Zgf (Zs k b) then (ZaJ,240) else (Zs k b,0))=RS):=Lh (by rw [← HRS.out,ZiZ HMK.out (by rw [HNP.out]; exact hbm)]);clear HRS;have hnv:=kf.nv;have hnc:=kf.nc;have hnc2:=kf.nc2;rw [HNV.out] at hnv;rw [HNC.out] at hnc hnc2;have HKF2:=Lh kf
   obtain ⟨W3,hW3⟩:∃ W3,w1.alloc (.cells k.root.cells 31)=W3:=⟨_,rfl⟩
   have S3:Hid (MbA w1.heap.size w #[.slice k.Av nv k.cv,.slice k.Ac nc k.cc,.int .u8 k.root.kind,.int .i64 k.root.c,.int .i64 k.root.v,.int .u8 k.root.item,.slice k.root.At k.root.tos.length k.root.ct,.slice k.root.Ae k.root.e.length k.root.ce,.slice k.root.Ag k.root.g.length k.root.cg,.slice PL nl k.root.cl,.slice k.Ap np k.cp] k.root W3):=Lh (by
    have hb:Below w1.heap.size w1 W3:=by rw [← hW3]; exact (Below.refl _ _).alloc (Nat.le_refl _) _
    refine ⟨(K0.out.trans (HK1.out.mono K0.out.size)).trans (hb.mono (Nat.le_trans K0.out.size HK1.out.size)),HKB1.out.call hb,HB1.out.call hb,?_⟩
    rw [← hW3]; exact Blk.new _ _ _)
   simp only [KP.cells,HNL.out,HPL.out] at hW3
   have hsz1:w.heap.size+2≤w1.heap.size:=by omega
   go_upto_region 6 with fail
   obtain ⟨rb,hrb⟩:∃ m,w1.heap.size=m:=⟨_,rfl⟩
   rw [hrb] at S3 hsz1 ⊢;clear hW3 hrb HB1 HK1 HKB1 d0 d1 d2 d3 d4 f0 f1 f2 f3 f4 e0 e1 e2 e3 e4 e5 e6 e7 e8 e9 e10 hlt1 hlt2;have b2:=S3.out.kb;have hlt2:=b2.lt;obtain ⟨e0,e1,e2,e3,e4,e5,e6,e7,e8,e9,e10⟩:=b2.c11;simp at e0 e1 e2 e3 e4 e5 e6 e7 e8 e9 e10;clear b2
   go_upto_if 40 with fail
   generalize hqn:decide (0 < np)=qn;have HQN:=Lh hqn;clear hqn
   go_cut [46] (fun s46 wx=>Hid (MbA rb w #[.slice k.Av nv k.cv,.slice k.Ac nc k.cc,.int .u8 k.root.kind,.int .i64 k.root.c,.int .i64 k.root.v,.int .u8 k.root.item,.slice k.root.At k.root.tos.length k.root.ct,.slice k.root.Ae k.root.e.length k.root.ce,.slice k.root.Ag k.root.g.length k.root.cg,.slice PL nl k.root.cl,.slice k.Ap np k.cp] (Zh k b) wx))
   case first =>
    cases qn with
    | false =>
      have hz:np=0:=by have:=of_decide_eq_false HQN.out; omega
      have S5:Hid (MbA rb w #[.slice k.Av nv k.cv,.slice k.Ac nc k.cc,.int .u8 k.root.kind,.int .i64 k.root.c,.int .i64 k.root.v,.int .u8 k.root.item,.slice k.root.At k.root.tos.length k.root.ct,.slice k.root.Ae k.root.e.length k.root.ce,.slice k.root.Ag k.root.g.length k.root.cg,.slice PL nl k.root.cl,.slice k.Ap np k.cp] (Zh k b) W3):=Lh (by
       unfold Zh;rw [HNP.out,if_pos hz]
       exact S3.out)
      clear hz hnp
      go_wp2_with fail
      go_meet;exact S5
    | true =>
      have hz:¬ np=0:=by have:=of_decide_eq_true HQN.out; omega
      have hln:nl=np:=by rcases hnp with h | h; exact absurd h hz; exact h
      have hbl:b < nl:=by omega
      have hbI:(b:Int) < nl:=by omega
      clear hln hnp;have hin4:=HIN.out.below (S3.out.bel.mono hB);obtain ⟨pb,po,x,hA,hpb,hx,hmx,c0,c1,c2,c3,c4,c5,c6,c7⟩:=Za4 hin4.2.2.1.one.2.2.2.2 rfl (k:=b) (by rw [HNL.out]; exact hbl);have hpw:pb < W3.heap.size:=Nat.lt_of_lt_of_le (Nat.lt_of_lt_of_le hpb hB) S3.out.bel.size;obtain rfl:PL=some ⟨pb,po,none⟩:=HPL.out.symm.trans hA;have b3:=S3.out.root;have hlt3:=b3.lt;simp only [KP.cells] at b3;obtain ⟨f0,f1,f2,f3,f4,f5,f6,f7⟩:=b3.z8;obtain ⟨d0,d1,d2,d3,d4,d5,d6,d7⟩:=b3.c8;simp at d0 d1 d2 d3 d4 d5 d6 d7;clear b3;have HBR:Hid (x=Zh k b):=Lh (by unfold Zh; rw [HNP.out,if_neg hz,List.getD_eq_getElem?_getD,hx]; rfl)
      have S5:Hid (MbA rb w #[.slice k.Av nv k.cv,.slice k.Ac nc k.cc,.int .u8 k.root.kind,.int .i64 k.root.c,.int .i64 k.root.v,.int .u8 k.root.item,.slice k.root.At k.root.tos.length k.root.ct,.slice k.root.Ae k.root.e.length k.root.ce,.slice k.root.Ag k.root.g.length k.root.cg,.slice (some ⟨pb,po,none⟩) nl k.root.cl,.slice k.Ap np k.cp] (Zh k b) ((((((((W3.setCell ⟨rb,0,none⟩ (.int .u8 x.kind)).setCell ⟨rb,1,none⟩ (.int .i64 x.c)).setCell ⟨rb,2,none⟩ (.int .i64 x.v)).setCell ⟨rb,3,none⟩ (.int .u8 x.item)).setCell ⟨rb,4,none⟩ (.slice x.At x.tos.length x.ct)).setCell ⟨rb,5,none⟩ (.slice x.Ae x.e.length x.ce)).setCell ⟨rb,6,none⟩ (.slice x.Ag x.g.length x.cg)).setCell ⟨rb,7,none⟩ (.slice x.Al x.l.length x.cl))):=Lh (by
       rw [← HBR.out]
       exact S3.out.store (by omega) rfl)
      clear hin4 hA hx hmx hz HBR
      go_wp2_with fail
      go_meet;exact S5
   case rest =>
    obtain ⟨w3,hw3⟩:∃ x,x=wc:=⟨_,rfl⟩
    subst hw3;have S:=hcut;clear hcut S3 e0 e1 e2 e3 e4 e5 e6 e7 e8 e9 e10 hlt2
    obtain ⟨p,hp⟩:∃ p,Zh k b=p:=⟨_,rfl⟩
    have HP:=Lh hp;rw [hp] at S;have kf:=HKF2.out;have hbr:=Zf0 kf (b:=b) (by rw [HNP.out]; exact hbm);rw [hp] at hbr;have HBRI:=Lh hbr;have hall:=kf.all hbr;have hsm:=kf.small hbr;rw [HNC.out] at hall;have HALL:=Lh hall;have HSM:=Lh hsm
    have HPIN:Hid (∀ W,k.In W B→p.In W B):=Lh fun W h=>by
     rcases hbr with rfl | h2
     ·exact h.2.2.1
     ·exact h.2.2.1.part h2
    have HC:Hid (∀ W,Below w.heap.size w W→Calls Tryz.prog 23 #[.agg p.cells] W (Zpa p W)):=Lh fun W h=>ZnN p (Zi6 (HKF2.out.all HBRI.out)) (HKF2.out.small6 HBRI.out) B W (HPIN.out W (HIN.out.below (h.mono hB))) (Nat.le_trans hB h.size);have x1:=S.out.root;have hlr:=x1.lt;simp only [KP.cells] at x1 HC;obtain ⟨d0,d1,d2,d3,d4,d5,d6,d7⟩:=x1.c8;simp at d0 d1 d2 d3 d4 d5 d6 d7;clear x1 hp hbr hall hsm kf
    go_upto_region 9 with (first
     | (go_at_call 23; (with_reducible refine (HC.out _ S.out.bel).mono ?_); rintro e9 w4 ⟨bw,s,rfl,HS,HPL4,HK4⟩))
    clear d0 d1 d2 d3 d4 d5 d6 d7 hlr;have S4:=Lh (S.out.call HK4.out)
    have hws4:w.heap.size+2≤w3.heap.size:=by have:=S.out.root.lt; omega
    clear S;have b2:=S4.out.kb;have hlt2:=b2.lt;obtain ⟨e0,e1,e2,e3,e4,e5,e6,e7,e8,e9,e10⟩:=b2.c11;simp at e0 e1 e2 e3 e4 e5 e6 e7 e8 e9 e10;clear b2
    go_cut [8] (fun s8 wx=>∃ bs A1 c1 A2 c2 A3 c3 A4 c4,s8 = .pointer (some ⟨bs,0,none⟩)∧Hid (SpR w4 bs (.slice A1 nv c1) (.slice A2 nv c2) (.slice A3 nc c3) (.slice A4 nc c4) nv nc wx))
    case first =>
     have HNO:Hid (∀ (n:Nat) (W:World) (gs:List (Value×Nat)) (ob:Option Nat),n≤256→Hid (NoR w4 gs ob W)→Calls Tryz.prog 24 #[.int .i64 n] W (fun e W'=>∃ A c,e = .returned (.slice A n c)∧Hid (NoR w4 (gs++[(.slice A n c,n)]) ob W'))):=Lh fun n W gs ob hn h=>(ZmG n (by omega) W).mono fun e W' hr=>h.out.step hr;have H256:Hid (nv≤256∧nc≤256):=Lh ⟨by omega,by omega⟩;have Q:=Lh (NoR.start w4);have QD:Hid (NoR w4 [] (some w4.heap.size) (w4.alloc (.cells #[.slice none 0 0,.slice none 0 0,.slice none 0 0,.slice none 0 0,.slice none 0 0] 38)).drew):=Lh (by have h:=(NoR.made Q).out; exact ⟨h.bel,h.rows,h.nd,h.box⟩);clear S4 HIN HKF HNV HNC HNP HNL HPL HMK HKF2 HRS2 HQN K0 HRB HKB e2 e3 e4 e5 e6 e7 e8 e9 e10 hnl hsz1 hbm hbig hneg hb64 hB hpl hvl hcl hrl hnp;refine Za5 ?_;refine ZaV (fun w'=>w4.heap.size≤w'.heap.size∧∀ b o,b < w4.heap.size→w'.cell? ⟨b,o,none⟩=w4.cell? ⟨b,o,none⟩) [0,1,2,4,5,6,8,9,10,12,13,14] 7 (listed:=#[true,true,true,false,true,true,true,false,true,true,true,false,true,true,true,false,false,false,false]) (by kernel_rfl) (by kernel_rfl) (by kernel_rfl) (by kernel_rfl) (by kernel_rfl) (fun _ _ d _ _ h=>by cases d <;> exact h) Zi.drew (fun R hR=>?_);simp only [List.filterMap_cons,List.filterMap_nil,List.getElem?_toArray,List.getElem?_cons_succ,List.getElem?_cons_zero]
     iterate 12
      refine Zc (v:=?_) rfl (fun w hSw=>?_) ?_
      rotate_left
      ·(try dsimp only at hSw); go_simp; all_goals with_reducible rfl
      (try simp only [Act.put,qA,qB,qC])
     refine Zco (hR _ ?_);clear hR R
     as_aux_lemma =>
      refine wpAnyH_ready (rs:=[3,17]) (by kernel_rfl) (by simp) ?_;refine .cons rfl (fun K hK=>?_) ?_
      ·go_simp
       (go_at_call 24; (with_reducible refine (HNO.out _ _ _ _ H256.out.1 Q).mono ?_))
       rintro e w2 ⟨h0,c0,rfl,Q1⟩
       go_wp2_with fail
       refine hK.out _ _ (NoR.sb Q1) (fun hHeld=>?_);clear hK K
       (try simp only [Act.put,qA,qB,qC])
       refine wpAnyH_ready (rs:=[7,17]) (by kernel_rfl) (by simp) ?_;refine .cons rfl (fun K hK=>?_) ?_
       ·go_simp
        (go_at_call 24; (with_reducible refine (HNO.out _ _ _ _ H256.out.1 Q1).mono ?_))
        rintro e w2 ⟨h1,c1,rfl,Q2⟩
        go_wp2_with fail
        refine hK.out _ _ (NoR.sb Q2) (fun hHeld=>?_);clear hK K
        (try simp only [Act.put,qA,qB,qC])
        refine wpAnyH_ready (rs:=[11,17]) (by kernel_rfl) (by simp) ?_;refine .cons rfl (fun K hK=>?_) ?_
        ·go_simp
         (go_at_call 24; (with_reducible refine (HNO.out _ _ _ _ H256.out.2 Q2).mono ?_))
         rintro e w2 ⟨h2,c2,rfl,Q3⟩
         go_wp2_with fail
         refine hK.out _ _ (NoR.sb Q3) (fun hHeld=>?_);clear hK K
         (try simp only [Act.put,qA,qB,qC])
         refine wpAnyH_ready (rs:=[15,17]) (by kernel_rfl) (by simp) ?_;refine .cons rfl (fun K hK=>?_) ?_
         ·go_simp
          (go_at_call 24; (with_reducible refine (HNO.out _ _ _ _ H256.out.2 Q3).mono ?_))
          rintro e w2 ⟨h3,c3,rfl,Q4⟩
          go_wp2_with fail
          refine hK.out _ _ (NoR.sb Q4) (fun hHeld=>?_);clear hK K
          (try simp only [Act.put,qA,qB,qC])
          refine wpAnyH_ready (rs:=[16,17]) (by kernel_rfl) (by simp) ?_;refine .cons rfl (fun K hK=>?_) ?_
          ·go_simp
           refine hK.out _ _ (NoR.sb Q4) (fun hHeld=>?_);clear hK K
           (try simp only [Act.put,qA,qB,qC])
           refine wpAnyH_ready (rs:=[17]) (by kernel_rfl) (by simp) ?_;refine .cons rfl (fun K hK=>?_) ?_
           ·have Q6:=NoR.made Q4
            go_simp
            refine hK.out _ _ (by first | exact NoR.sb Q6 | exact NoR.sb QD) (fun hHeld=>?_);clear hK K
            (try simp only [Act.put,qA,qB,qC])
            refine wpAnyH_ready (rs:=[18]) (by kernel_rfl) (by simp) ?_;refine .cons rfl (fun K hK=>?_) ?_
            ·have bb:=(Q6.out.box _ rfl).2;have hlb:=bb.lt;simp only [Zh0] at bb;obtain ⟨f0,f1,f2,f3,f4⟩:=bb.z5;obtain ⟨d0,d1,d2,d3,d4⟩:=bb.c5;simp at d0 d1 d2 d3 d4;clear bb
             go_simp
             refine hK.out _ _ (Zi.alloc (NoR.sb Q4) _) (fun hHeld=>?_);clear hK K
             (try simp only [Act.put,qA,qB,qC])
             refine wpAnyH_done (by kernel_rfl) ?_ _
             go_wp2
             go_meet;exact ⟨_,_,_,_,_,_,_,_,_,rfl,Lh (NoR.finA Q4)⟩
            exact .nil
           exact .nil
          refine .cons rfl (fun K hK=>?_) ?_
          ·have Q8:=NoR.made Q4
           go_simp
           refine hK.out _ _ (by first | exact NoR.sb Q8 | exact NoR.sb QD) (fun hHeld=>?_);clear hK K
           (try simp only [Act.put,qA,qB,qC])
           refine wpAnyH_ready (rs:=[16]) (by kernel_rfl) (by simp) ?_;refine .cons rfl (fun K hK=>?_) ?_
           ·go_simp
            refine hK.out _ _ (NoR.sb Q8) (fun hHeld=>?_);clear hK K
            (try simp only [Act.put,qA,qB,qC])
            refine wpAnyH_ready (rs:=[18]) (by kernel_rfl) (by simp) ?_;refine .cons rfl (fun K hK=>?_) ?_
            ·have bb:=(Q8.out.box _ rfl).2;have hlb:=bb.lt;simp only [Zh0] at bb;obtain ⟨f0,f1,f2,f3,f4⟩:=bb.z5;obtain ⟨d0,d1,d2,d3,d4⟩:=bb.c5;simp at d0 d1 d2 d3 d4;clear bb
             go_simp
             refine hK.out _ _ (Zi.alloc (NoR.sb Q4) _) (fun hHeld=>?_);clear hK K
             (try simp only [Act.put,qA,qB,qC])
             refine wpAnyH_done (by kernel_rfl) ?_ _
             go_wp2
             go_meet;exact ⟨_,_,_,_,_,_,_,_,_,rfl,Lh (NoR.finA Q4)⟩
            exact .nil
           exact .nil
          exact .nil
         refine .cons rfl (fun K hK=>?_) ?_
         ·have Q11:=NoR.made Q3
          go_simp
          refine hK.out _ _ (by first | exact NoR.sb Q11 | exact NoR.sb QD) (fun hHeld=>?_);clear hK K
          (try simp only [Act.put,qA,qB,qC])
          refine wpAnyH_ready (rs:=[15]) (by kernel_rfl) (by simp) ?_;refine .cons rfl (fun K hK=>?_) ?_
          ·go_simp
           (go_at_call 24; (with_reducible refine (HNO.out _ _ _ _ H256.out.2 Q11).mono ?_))
           rintro e w2 ⟨h3,c3,rfl,Q12⟩
           go_wp2_with fail
           refine hK.out _ _ (NoR.sb Q12) (fun hHeld=>?_);clear hK K
           (try simp only [Act.put,qA,qB,qC])
           refine wpAnyH_ready (rs:=[16]) (by kernel_rfl) (by simp) ?_;refine .cons rfl (fun K hK=>?_) ?_
           ·go_simp
            refine hK.out _ _ (NoR.sb Q12) (fun hHeld=>?_);clear hK K
            (try simp only [Act.put,qA,qB,qC])
            refine wpAnyH_ready (rs:=[18]) (by kernel_rfl) (by simp) ?_;refine .cons rfl (fun K hK=>?_) ?_
            ·have bb:=(Q12.out.box _ rfl).2;have hlb:=bb.lt;simp only [Zh0] at bb;obtain ⟨f0,f1,f2,f3,f4⟩:=bb.z5;obtain ⟨d0,d1,d2,d3,d4⟩:=bb.c5;simp at d0 d1 d2 d3 d4;clear bb
             go_simp
             refine hK.out _ _ (NoR.sb5 Q12) (fun hHeld=>?_);clear hK K
             (try simp only [Act.put,qA,qB,qC])
             refine wpAnyH_done (by kernel_rfl) ?_ _
             go_wp2
             go_meet;exact ⟨_,_,_,_,_,_,_,_,_,rfl,Lh (NoR.fin Q12)⟩
            exact .nil
           exact .nil
          exact .nil
         exact .nil
        refine .cons rfl (fun K hK=>?_) ?_
        ·have Q15:=NoR.made Q2
         go_simp
         refine hK.out _ _ (by first | exact NoR.sb Q15 | exact NoR.sb QD) (fun hHeld=>?_);clear hK K
         (try simp only [Act.put,qA,qB,qC])
         refine wpAnyH_ready (rs:=[11]) (by kernel_rfl) (by simp) ?_;refine .cons rfl (fun K hK=>?_) ?_
         ·go_simp
          (go_at_call 24; (with_reducible refine (HNO.out _ _ _ _ H256.out.2 Q15).mono ?_))
          rintro e w2 ⟨h2,c2,rfl,Q16⟩
          go_wp2_with fail
          refine hK.out _ _ (NoR.sb Q16) (fun hHeld=>?_);clear hK K
          (try simp only [Act.put,qA,qB,qC])
          refine wpAnyH_ready (rs:=[15]) (by kernel_rfl) (by simp) ?_;refine .cons rfl (fun K hK=>?_) ?_
          ·go_simp
           (go_at_call 24; (with_reducible refine (HNO.out _ _ _ _ H256.out.2 Q16).mono ?_))
           rintro e w2 ⟨h3,c3,rfl,Q17⟩
           go_wp2_with fail
           refine hK.out _ _ (NoR.sb Q17) (fun hHeld=>?_);clear hK K
           (try simp only [Act.put,qA,qB,qC])
           refine wpAnyH_ready (rs:=[16]) (by kernel_rfl) (by simp) ?_;refine .cons rfl (fun K hK=>?_) ?_
           ·go_simp
            refine hK.out _ _ (NoR.sb Q17) (fun hHeld=>?_);clear hK K
            (try simp only [Act.put,qA,qB,qC])
            refine wpAnyH_ready (rs:=[18]) (by kernel_rfl) (by simp) ?_;refine .cons rfl (fun K hK=>?_) ?_
            ·have bb:=(Q17.out.box _ rfl).2;have hlb:=bb.lt;simp only [Zh0] at bb;obtain ⟨f0,f1,f2,f3,f4⟩:=bb.z5;obtain ⟨d0,d1,d2,d3,d4⟩:=bb.c5;simp at d0 d1 d2 d3 d4;clear bb
             go_simp
             refine hK.out _ _ (NoR.sb5 Q17) (fun hHeld=>?_);clear hK K
             (try simp only [Act.put,qA,qB,qC])
             refine wpAnyH_done (by kernel_rfl) ?_ _
             go_wp2
             go_meet;exact ⟨_,_,_,_,_,_,_,_,_,rfl,Lh (NoR.fin Q17)⟩
            exact .nil
           exact .nil
          exact .nil
         exact .nil
        exact .nil
       refine .cons rfl (fun K hK=>?_) ?_
       ·have Q20:=NoR.made Q1
        go_simp
        refine hK.out _ _ (by first | exact NoR.sb Q20 | exact NoR.sb QD) (fun hHeld=>?_);clear hK K
        (try simp only [Act.put,qA,qB,qC])
        refine wpAnyH_ready (rs:=[7]) (by kernel_rfl) (by simp) ?_;refine .cons rfl (fun K hK=>?_) ?_
        ·go_simp
         (go_at_call 24; (with_reducible refine (HNO.out _ _ _ _ H256.out.1 Q20).mono ?_))
         rintro e w2 ⟨h1,c1,rfl,Q21⟩
         go_wp2_with fail
         refine hK.out _ _ (NoR.sb Q21) (fun hHeld=>?_);clear hK K
         (try simp only [Act.put,qA,qB,qC])
         refine wpAnyH_ready (rs:=[11]) (by kernel_rfl) (by simp) ?_;refine .cons rfl (fun K hK=>?_) ?_
         ·go_simp
          (go_at_call 24; (with_reducible refine (HNO.out _ _ _ _ H256.out.2 Q21).mono ?_))
          rintro e w2 ⟨h2,c2,rfl,Q22⟩
          go_wp2_with fail
          refine hK.out _ _ (NoR.sb Q22) (fun hHeld=>?_);clear hK K
          (try simp only [Act.put,qA,qB,qC])
          refine wpAnyH_ready (rs:=[15]) (by kernel_rfl) (by simp) ?_;refine .cons rfl (fun K hK=>?_) ?_
          ·go_simp
           (go_at_call 24; (with_reducible refine (HNO.out _ _ _ _ H256.out.2 Q22).mono ?_))
           rintro e w2 ⟨h3,c3,rfl,Q23⟩
           go_wp2_with fail
           refine hK.out _ _ (NoR.sb Q23) (fun hHeld=>?_);clear hK K
           (try simp only [Act.put,qA,qB,qC])
           refine wpAnyH_ready (rs:=[16]) (by kernel_rfl) (by simp) ?_;refine .cons rfl (fun K hK=>?_) ?_
           ·go_simp
            refine hK.out _ _ (NoR.sb Q23) (fun hHeld=>?_);clear hK K
            (try simp only [Act.put,qA,qB,qC])
            refine wpAnyH_ready (rs:=[18]) (by kernel_rfl) (by simp) ?_;refine .cons rfl (fun K hK=>?_) ?_
            ·have bb:=(Q23.out.box _ rfl).2;have hlb:=bb.lt;simp only [Zh0] at bb;obtain ⟨f0,f1,f2,f3,f4⟩:=bb.z5;obtain ⟨d0,d1,d2,d3,d4⟩:=bb.c5;simp at d0 d1 d2 d3 d4;clear bb
             go_simp
             refine hK.out _ _ (NoR.sb5 Q23) (fun hHeld=>?_);clear hK K
             (try simp only [Act.put,qA,qB,qC])
             refine wpAnyH_done (by kernel_rfl) ?_ _
             go_wp2
             go_meet;exact ⟨_,_,_,_,_,_,_,_,_,rfl,Lh (NoR.fin Q23)⟩
            exact .nil
           exact .nil
          exact .nil
         exact .nil
        exact .nil
       exact .nil
      refine .cons rfl (fun K hK=>?_) ?_
      ·have Q26:=NoR.made Q
       go_simp
       refine hK.out _ _ (by first | exact NoR.sb Q26 | exact NoR.sb QD) (fun hHeld=>?_);clear hK K
       (try simp only [Act.put,qA,qB,qC])
       have QX:=QD;refine wpAnyH_ready (rs:=[3]) (by kernel_rfl) (by simp) ?_;refine .cons rfl (fun K hK=>?_) ?_
       ·go_simp
        (go_at_call 24; (with_reducible refine (HNO.out _ _ _ _ H256.out.1 QX).mono ?_))
        rintro e w2 ⟨h0,c0,rfl,Q27⟩
        go_wp2_with fail
        refine hK.out _ _ (NoR.sb Q27) (fun hHeld=>?_);clear hK K
        (try simp only [Act.put,qA,qB,qC])
        refine wpAnyH_ready (rs:=[7]) (by kernel_rfl) (by simp) ?_;refine .cons rfl (fun K hK=>?_) ?_
        ·go_simp
         (go_at_call 24; (with_reducible refine (HNO.out _ _ _ _ H256.out.1 Q27).mono ?_))
         rintro e w2 ⟨h1,c1,rfl,Q28⟩
         go_wp2_with fail
         refine hK.out _ _ (NoR.sb Q28) (fun hHeld=>?_);clear hK K
         (try simp only [Act.put,qA,qB,qC])
         refine wpAnyH_ready (rs:=[11]) (by kernel_rfl) (by simp) ?_;refine .cons rfl (fun K hK=>?_) ?_
         ·go_simp
          (go_at_call 24; (with_reducible refine (HNO.out _ _ _ _ H256.out.2 Q28).mono ?_))
          rintro e w2 ⟨h2,c2,rfl,Q29⟩
          go_wp2_with fail
          refine hK.out _ _ (NoR.sb Q29) (fun hHeld=>?_);clear hK K
          (try simp only [Act.put,qA,qB,qC])
          refine wpAnyH_ready (rs:=[15]) (by kernel_rfl) (by simp) ?_;refine .cons rfl (fun K hK=>?_) ?_
          ·go_simp
           (go_at_call 24; (with_reducible refine (HNO.out _ _ _ _ H256.out.2 Q29).mono ?_))
           rintro e w2 ⟨h3,c3,rfl,Q30⟩
           go_wp2_with fail
           refine hK.out _ _ (NoR.sb Q30) (fun hHeld=>?_);clear hK K
           (try simp only [Act.put,qA,qB,qC])
           refine wpAnyH_ready (rs:=[16]) (by kernel_rfl) (by simp) ?_;refine .cons rfl (fun K hK=>?_) ?_
           ·go_simp
            refine hK.out _ _ (NoR.sb Q30) (fun hHeld=>?_);clear hK K
            (try simp only [Act.put,qA,qB,qC])
            refine wpAnyH_ready (rs:=[18]) (by kernel_rfl) (by simp) ?_;refine .cons rfl (fun K hK=>?_) ?_
            ·have bb:=(Q30.out.box _ rfl).2;have hlb:=bb.lt;simp only [Zh0] at bb;obtain ⟨f0,f1,f2,f3,f4⟩:=bb.z5;obtain ⟨d0,d1,d2,d3,d4⟩:=bb.c5;simp at d0 d1 d2 d3 d4;clear bb
             go_simp
             refine hK.out _ _ (NoR.sb5 Q30) (fun hHeld=>?_);clear hK K
             (try simp only [Act.put,qA,qB,qC])
             refine wpAnyH_done (by kernel_rfl) ?_ _
             go_wp2
             go_meet;exact ⟨_,_,_,_,_,_,_,_,_,rfl,Lh (NoR.fin Q30)⟩
            exact .nil
           exact .nil
          exact .nil
         exact .nil
        exact .nil
       exact .nil
      exact .nil
    case rest =>
     obtain ⟨bs,A1,c1,A2,c2,A3,c3,A4,c4,rfl,P5⟩:=hcut;have hps:=HPL4.out;have hsp:=HS.out
     have S5:Hid (MkR k w4.heap.size w3.heap.size bw bs nv nc s w (.slice none 0 0) (.slice A1 nv c1) (.slice A2 nv c2) (.slice A3 nc c3) (.slice A4 nc c4) (List.replicate nv (-1)) (List.replicate nv (-1)) (List.replicate nc (-1)) (List.replicate nc (-1)) wc):=Lh (by
      have hb:=P5.out.bel;have hk:=S4.out.kb.call hb
      exact ⟨S4.out.bel.trans (hb.mono S4.out.bel.size),by simp only [KK.flat,HNV.out,HNC.out,HNP.out,HNL.out,HPL.out]; exact hk,S4.out.res.call hb,hps.call hb,P5.out.xbs,P5.out.x1,P5.out.x2,P5.out.x3,P5.out.x4⟩)
     have HD:Hid (MkD w4.heap.size w3.heap.size bw bs s w (.slice A1 nv c1) (.slice A2 nv c2) (.slice A3 nc c3) (.slice A4 nc c4)):=Lh (by
      have h1:=P5.out.lo;have h2:=HK4.out.size;refine ⟨by omega,by omega,by omega,P5.out.ne,fun q hq hr=>?_⟩;have h3:=(hps.row_lt hr).2
      rcases hq with e | e | e | e
      ·have:=(P5.out.x1.lt q e).1; omega
      ·have:=(P5.out.x2.lt q e).1; omega
      ·have:=(P5.out.x3.lt q e).1; omega
      ·have:=(P5.out.x4.lt q e).1; omega)
     have HB4:Hid (w4.heap.size≤bs):=Lh P5.out.lo
     obtain ⟨nu,hnu⟩:∃ m,s.pl.uses.length=m:=⟨_,rfl⟩
     have HNU:=Lh hnu
     obtain ⟨n,hn⟩:∃ m,s.pl.par.length=m:=⟨_,rfl⟩
     have HN:=Lh hn
     obtain ⟨ng,hng⟩:∃ m,s.pl.grp.length=m:=⟨_,rfl⟩
     have HNG:=Lh hng;have hsm:=HSM.out;rw [← hsp,hnu,hn,hng] at hsm;obtain ⟨hsm1,hsm2,hsm3⟩:=hsm
     have htree:Zak s.pl:=by rw [hsp]; exact Zas p
     have HT:=Lh htree
     have hpos:0 < n:=by rw [← hn]; exact htree.pos
     have HUI:Hid (∀ u∈s.pl.uses,∀ W,Below w.heap.size w W→u.1.In W B∧B≤W.heap.size):=Lh fun u hu W h=>by
      rw [hsp] at hu;exact ⟨Zh4 (HPIN.out W (HIN.out.below (h.mono hB))) u hu,Nat.le_trans hB h.size⟩
     have HUO:Hid (∀ u∈s.pl.uses,Ze2 u.1∧(ZL u.1).length≤48):=Lh fun u hu=>by
      rw [hsp] at hu;have hc:=ZaS HALL.out u hu;exact ⟨ZcK hc,ZgM hc⟩
     obtain ⟨Au,cu,hvu⟩:=Zv hps.us;obtain ⟨Ap,cp,hvp⟩:=Zv hps.pr;rw [hnu] at hvu;rw [hn] at hvp;have HVU:=Lh hvu;have HVP:=Lh hvp;clear hps hsp hnu hn hng htree hvu hvp S4 P5 HC e0 e1 e2 e3 e4 e5 e6 e7 e8 e9 e10 hlt2 K0 HRB HKB HMK HKF;have s0:=S5.out.pa.blk;rw [HVU.out,HVP.out] at s0;have hlb:=s0.lt;obtain ⟨q0,q1,q2⟩:=s0.c3;simp at q0 q1 q2;clear s0;have S6:Hid (MkR k w4.heap.size w3.heap.size bw bs nv nc s w (.slice none 0 0) (.slice A1 nv c1) (.slice A2 nv c2) (.slice A3 nc c3) (.slice A4 nc c4) (List.replicate nv (-1)) (Zgd s.pl.par s.pl.uses nv 0 0) (List.replicate nc (-1)) (List.replicate nc (-1)) wc):=Lh (by rw [← Zjw]; exact S5.out);clear S5
     go_wp2_with fail
     go_loopw [9] (fun i wr=>∃ j:Nat,j≤nu∧i = .int .i64 j∧Hid (MkR k w4.heap.size w3.heap.size bw bs nv nc s w (.slice none 0 0) (.slice A1 nv c1) (.slice A2 nv c2) (.slice A3 nc c3) (.slice A4 nc c4) (List.replicate nv (-1)) (Zgd s.pl.par s.pl.uses nv j 0) (List.replicate nc (-1)) (List.replicate nc (-1)) wr)) (fun i _=>nu - (intOf i).toNat)
     case atStart=>exact ⟨0,Nat.zero_le _,rfl,S6⟩
     case round =>
      clear S6 q0 q1 q2 hlb;obtain ⟨i,hi,rfl,S⟩:=hrel;have s0:=S.out.pa.blk;rw [HVU.out,HVP.out] at s0;have hlb:=s0.lt;obtain ⟨q0,q1,q2⟩:=s0.c3;simp at q0 q1 q2;clear s0
      by_cases hlt:i < nu
      ·as_aux_lemma =>
        have hltI:(i:Int) < nu:=by omega
        have hru:=S.out.pa.us;rw [HVU.out,HNU.out] at hru;obtain ⟨ub,uo,u,hA,hub,hx,hmx,d0,d1,d2,d3,d4,d5,d6,d7,d8⟩:=ZiL (us:=s.pl.uses) (by rw [HNU.out]; exact Zo.of_own hru) (k:=i) (by rw [HNU.out]; exact hlt);subst hA;have HX:=Lh hx;have HMX:=Lh hmx;have S2:=Lh (S.out.call ((Below.refl _ wr).alloc (Nat.le_refl _) (.cells #[.int .u8 u.1.kind,.int .i64 u.1.c,.int .i64 u.1.v,.int .u8 u.1.item,.slice u.1.At u.1.tos.length u.1.ct,.slice u.1.Ae u.1.e.length u.1.ce,.slice u.1.Ag u.1.g.length u.1.cg,.slice u.1.Al u.1.l.length u.1.cl,.int .i64 u.2] 81)));have HB2:=Lh (Blk.new wr 81 #[.int .u8 u.1.kind,.int .i64 u.1.c,.int .i64 u.1.v,.int .u8 u.1.item,.slice u.1.At u.1.tos.length u.1.ct,.slice u.1.Ae u.1.e.length u.1.ce,.slice u.1.Ag u.1.g.length u.1.cg,.slice u.1.Al u.1.l.length u.1.cl,.int .i64 u.2])
        have hu2:u.2 < n:=by have:=HT.out.uses u hmx; rw [HN.out] at this; exact this
        have HPG:=Lh (HUO.out u hmx)
        have HUV:Hid (∀ (v:Nat) (W:World),v < nv→Below w.heap.size w W→Calls Tryz.prog 25 #[.agg u.1.cells,.int .i64 v] W (Zu (.bool ((ZbP u.1).contains (v:Int))) W)):=Lh fun v W hv h=>by
         have h1:=HUI.out u HMX.out W h;have:=Zmu u.1 v B W (by unfold Zy; omega) h1.1 h1.2 (by have:=HPG.out.2; omega);rw [Zkq HPG.out.1] at this;exact this
        simp only [KP.cells] at HUV;clear hru hx hmx
        go_upto_region 14 with fail
        obtain ⟨ux,hux⟩:∃ m,wr.heap.size=m:=⟨_,rfl⟩
        have HUX:=Lh hux;rw [hux] at HB2 ⊢;generalize wr.alloc _=w6 at *;clear S q0 q1 q2 d0 d1 d2 d3 d4 d5 d6 d7 d8 hlb hux;have b2:=S2.out.kb;simp only [KK.flat,HNV.out,HNC.out,HNP.out,HNL.out,HPL.out] at b2;have hlt2:=b2.lt;obtain ⟨e0,e1,e2,e3,e4,e5,e6,e7,e8,e9,e10⟩:=b2.c11;simp at e0 e1 e2 e3 e4 e5 e6 e7 e8 e9 e10;clear b2
        go_wp2_with fail
        go_loopw [11] (fun i2 wq=>∃ j:Nat,j≤nv∧i2 = .int .i64 j∧Hid (MkR k w4.heap.size w3.heap.size bw bs nv nc s w (.slice none 0 0) (.slice A1 nv c1) (.slice A2 nv c2) (.slice A3 nc c3) (.slice A4 nc c4) (List.replicate nv (-1)) (Zgd s.pl.par s.pl.uses nv i j) (List.replicate nc (-1)) (List.replicate nc (-1)) wq∧Blk wq ux 81 #[.int .u8 u.1.kind,.int .i64 u.1.c,.int .i64 u.1.v,.int .u8 u.1.item,.slice u.1.At u.1.tos.length u.1.ct,.slice u.1.Ae u.1.e.length u.1.ce,.slice u.1.Ag u.1.g.length u.1.cg,.slice u.1.Al u.1.l.length u.1.cl,.int .i64 u.2])) (fun i2 _=>nv - (intOf i2).toNat)
        case atStart=>exact ⟨0,Nat.zero_le _,rfl,Lh ⟨S2.out,HB2.out⟩⟩
        case round =>
         clear S2 HB2 e0 e1 e2 e3 e4 e5 e6 e7 e8 e9 e10 hlt2;obtain ⟨v,hv,rfl,S⟩:=hrel;have b2:=S.out.1.kb;simp only [KK.flat,HNV.out,HNC.out,HNP.out,HNL.out,HPL.out] at b2;have hlt2:=b2.lt;obtain ⟨e0,e1,e2,e3,e4,e5,e6,e7,e8,e9,e10⟩:=b2.c11;simp at e0 e1 e2 e3 e4 e5 e6 e7 e8 e9 e10;have bx:=S.out.2;have hxl:=bx.lt;obtain ⟨d0,d1,d2,d3,d4,d5,d6,d7,d8⟩:=bx.c9;simp at d0 d1 d2 d3 d4 d5 d6 d7 d8;clear b2 bx
         by_cases hltv:v < nv
         ·as_aux_lemma =>
           have hltvI:(v:Int) < nv:=by omega
           have hcv:=HUV.out v wr hltv S.out.1.bel
           obtain ⟨r,hr⟩:∃ r,(ZbP u.1).contains (v:Int)=r:=⟨_,rfl⟩
           have HRX:=Lh hr;rw [hr] at hcv;have HCV:=Lh hcv;clear hcv hr
           cases r with
           | false =>
             have HSK:Hid (Zgd s.pl.par s.pl.uses nv i v=Zgd s.pl.par s.pl.uses nv i (v+1)):=Lh (Zko HX.out HRX.out)
             go_wp2_with (first
               | (go_at_call 25; (with_reducible refine HCV.out.mono ?_); rintro e9 w7 ⟨rfl,k7⟩
                  have S7:=Lh (S.out.1.call k7);have B7:=Lh (S.out.2.call k7)
                  clear k7))
             go_roundw
             case rel =>
              refine ⟨v+1,?_,?_,?_⟩
              ·omega
              ·go_num
              ·exact Lh ⟨by rw [← HSK.out]; exact S7.out,B7.out⟩
             case measure=>simp [intOf]; omega
           | true =>
             go_upto_region 18 with (first
               | (go_at_call 25; (with_reducible refine HCV.out.mono ?_); rintro e9 w7 ⟨rfl,k7⟩
                  have S7:=Lh (S.out.1.call k7);have B7:=Lh (S.out.2.call k7)
                  clear k7))
             obtain ⟨g2,a,mt,hA2,hMA,hS8,hB8⟩:=S7.out.meet HD.out hltv HX.out HRX.out HT.out HN.out (Nat.le_trans hsm1 (by decide)) HVP.out B7.out rfl;have HMA:=Lh hMA;have S8:=Lh hS8;have B8:=Lh hB8;clear hMA hS8 hB8;subst hA2;have y2:=HMA.out.c2;have y3:=HMA.out.fz;have l3:=HMA.out.l2
             obtain ⟨F,hF⟩:∃ F:Unit→World,∀ i,F i=w7.drew:=⟨fun _=>w7.drew,fun _=>rfl⟩
             have F0:∀ i,(F i).cell? ⟨bs,2,none⟩=some (.slice (some ⟨g2,0,none⟩) nv c2):=fun i=>by rw [hF]; exact HMA.out.c0
             have F1:∀ i,(F i).cell? ⟨bw,0,none⟩=some (.slice Ap n cp):=fun i=>by rw [hF]; exact HMA.out.c1
             have F2:∀ i,(F i).cell? ⟨g2,v,none⟩=some (.int .i64 a):=fun i=>by rw [hF]; exact HMA.out.c2
             have F3:∀ i,(F i).cell? ⟨ux,8,none⟩=some (.int .i64 u.2):=fun i=>by rw [hF]; exact HMA.out.c3
             have FB0:∀ i,bs < (F i).heap.size:=fun i=>by rw [hF]; exact HMA.out.l0
             have FB1:∀ i,bw < (F i).heap.size:=fun i=>by rw [hF]; exact HMA.out.l1
             have FB2:∀ i,g2 < (F i).heap.size:=fun i=>by rw [hF]; exact HMA.out.l2
             have FB3:∀ i,ux < (F i).heap.size:=fun i=>by rw [hF]; exact HMA.out.l3
             have HM:Hid (∀ i,Calls Tryz.prog 26 #[.slice Ap n cp,.int .i64 a,.int .i64 u.2] (F i) (fun e W'=>e = .returned (.int .i64 mt)∧W'=F i)):=Lh fun i=>by
              rw [hF];exact HMA.out.call
             refine ZcX F hF 16 (by kernel_rfl) (by kernel_rfl) ?_;clear hF e0 e1 e2 e3 e4 e5 e6 e7 e8 e9 e10 d0 d1 d2 d3 d4 d5 d6 d7 d8;simp only [List.take_succ_cons,List.take_zero,List.drop_succ_cons,List.drop_zero]
             repeat (go_big_quiet_step (first
              | (go_at_call 26; refine (HM.out _).mono ?_; rintro e w1 ⟨rfl,rfl⟩; exact ⟨rfl,_,rfl⟩)))
             refine wpQuiet_nil ?_
             go_wp2_with fail
             go_roundw
             case rel =>
              refine ⟨v+1,?_,?_,?_⟩
              ·omega
              ·go_num
              ·exact Lh ⟨S8.out,B8.out⟩
             case measure=>simp [intOf]; omega
         ·have hltvI:¬ (v:Int) < nv:=by omega
          obtain rfl:nv=v:=by omega
          have S3:Hid (MkR k w4.heap.size w3.heap.size bw bs nv nc s w (.slice none 0 0) (.slice A1 nv c1) (.slice A2 nv c2) (.slice A3 nc c3) (.slice A4 nc c4) (List.replicate nv (-1)) (Zgd s.pl.par s.pl.uses nv (i+1) 0) (List.replicate nc (-1)) (List.replicate nc (-1)) wr):=Lh (by rw [← Zkp]; exact S.out.1)
          go_wp2_with fail
          go_roundw
          case rel =>
           refine ⟨i+1,?_,?_,?_⟩
           ·omega
           ·go_num
           ·exact S3
          case measure=>simp [intOf]; omega
      ·have hltI:¬ (i:Int) < nu:=by omega
       obtain rfl:nu=i:=by omega
       have S9:Hid (MkR k w4.heap.size w3.heap.size bw bs nv nc s w (.slice none 0 0) (.slice A1 nv c1) (.slice A2 nv c2) (.slice A3 nc c3) (.slice A4 nc c4) (List.replicate nv (-1)) (ZbA k (Zd p)) (List.replicate nc (-1)) (Zha (ZY k b) s.pl.uses nc 2) wr):=Lh (S.out.vins HKF2.out HBRI.out HS.out HNV.out HNU.out);have HOU:Hid (∀ (c:Nat) (W:World),c < nc→Below w.heap.size w W→Calls Tryz.prog 27 #[.agg k.flat,.int .i64 b,.int .i64 c] W (Zu (.bool (ZY k b c)) W)):=Lh fun c W hc h=>ZmF k HKF2.out b c (by omega) (by omega) B W (HIN.out.below (h.mono hB)) (Nat.le_trans hB h.size)
       have HUC:Hid (∀ (u:KP×Nat),u∈s.pl.uses→∀ (c:Nat) (W:World),c < nc→Below w.heap.size w W→Calls Tryz.prog 28 #[.agg u.1.cells,.int .i64 c] W (Zu (.bool ((Zau u.1).contains (c:Int))) W)):=Lh fun u hu c W hc h=>by
        have h1:=HUI.out u hu W h;have:=Zhr u.1 (c:Int) B W (by unfold Zy; omega) h1.1 h1.2;rw [Zhi] at this;exact this
       simp only [KK.flat,KP.cells,HNV.out,HNC.out,HNP.out,HNL.out,HPL.out] at HOU HUC;clear S
       go_wp2_with fail
       go_loopw [12] (fun i wr=>∃ c:Nat,2≤c∧c≤nc∧i = .int .i64 c∧Hid (MkR k w4.heap.size w3.heap.size bw bs nv nc s w (.slice none 0 0) (.slice A1 nv c1) (.slice A2 nv c2) (.slice A3 nc c3) (.slice A4 nc c4) (List.replicate nv (-1)) (ZbA k (Zd p)) (List.replicate nc (-1)) (Zha (ZY k b) s.pl.uses nc c) wr)) (fun i _=>nc - (intOf i).toNat)
       case atStart=>exact ⟨2,Nat.le_refl _,hnc2,rfl,S9⟩
       case round =>
        clear S9 q0 q1 q2 hlb;obtain ⟨c,hc2,hcn,rfl,S⟩:=hrel;have b2:=S.out.kb;simp only [KK.flat,HNV.out,HNC.out,HNP.out,HNL.out,HPL.out] at b2;have hlt2:=b2.lt;obtain ⟨e0,e1,e2,e3,e4,e5,e6,e7,e8,e9,e10⟩:=b2.c11;simp at e0 e1 e2 e3 e4 e5 e6 e7 e8 e9 e10;clear b2
        by_cases hlt:c < nc
        ·as_aux_lemma =>
          have hltI:(c:Int) < nc:=by omega
          have hco:=HOU.out c wr hlt S.out.bel
          obtain ⟨o,ho⟩:∃ o,ZY k b c=o:=⟨_,rfl⟩
          have HOX:=Lh ho;rw [ho] at hco;have HCO:=Lh hco;have S2:Hid (MkR k w4.heap.size w3.heap.size bw bs nv nc s w (.slice none 0 0) (.slice A1 nv c1) (.slice A2 nv c2) (.slice A3 nc c3) (.slice A4 nc c4) (List.replicate nv (-1)) (ZbA k (Zd p)) (List.replicate nc (-1)) (Zcf (ZY k b) s.pl.uses nc c 0) wr):=Lh (by rw [← Ziz]; exact S.out);clear hco ho S
          go_upto_region 23 with (first
           | (go_at_call 27; (with_reducible refine HCO.out.mono ?_); rintro e9 w8 ⟨rfl,k8⟩
              have S8:=Lh (S2.out.call k8)
              clear k8))
          clear S2 e0 e1 e2 e3 e4 e5 e6 e7 e8 e9 e10 hlt2;generalize hqo:(!o)=q;have HQO:=Lh hqo;clear hqo
          go_wp2_with fail
          go_loopw [14] (fun i wq=>∃ j:Nat,j≤nu∧i = .int .i64 j∧Hid (MkR k w4.heap.size w3.heap.size bw bs nv nc s w (.slice none 0 0) (.slice A1 nv c1) (.slice A2 nv c2) (.slice A3 nc c3) (.slice A4 nc c4) (List.replicate nv (-1)) (ZbA k (Zd p)) (List.replicate nc (-1)) (Zcf (ZY k b) s.pl.uses nc c j) wq)) (fun i _=>nu - (intOf i).toNat)
          case atStart=>exact ⟨0,Nat.zero_le _,rfl,S8⟩
          case round =>
           clear S8;obtain ⟨i,hi,rfl,S⟩:=hrel;have s0:=S.out.pa.blk;rw [HVU.out,HVP.out] at s0;have hlb:=s0.lt;obtain ⟨q0,q1,q2⟩:=s0.c3;simp at q0 q1 q2;clear s0
           cases q with
           | false =>
             have HOX2:Hid (ZY k b c=true):=Lh (by rw [HOX.out]; have:=HQO.out; revert this; cases o <;> simp);have S3:Hid (MkR k w4.heap.size w3.heap.size bw bs nv nc s w (.slice none 0 0) (.slice A1 nv c1) (.slice A2 nv c2) (.slice A3 nc c3) (.slice A4 nc c4) (List.replicate nv (-1)) (ZbA k (Zd p)) (List.replicate nc (-1)) (Zha (ZY k b) s.pl.uses nc (c+1)) wr):=Lh (by rw [← ZlW s.pl.uses i HOX2.out]; exact S.out);clear S
             by_cases hlti:i < nu
             ·as_aux_lemma =>
               have hltiI:(i:Int) < nu:=by omega
               go_wp2_with fail
               go_roundw
               case rel =>
                refine ⟨c+1,?_,?_,?_,?_⟩
                ·omega
                ·omega
                ·go_num
                ·exact S3
               case measure=>simp [intOf]; omega
             ·have hltiI:¬ (i:Int) < nu:=by omega
              go_wp2_with fail
              go_roundw
              case rel =>
               refine ⟨c+1,?_,?_,?_,?_⟩
               ·omega
               ·omega
               ·go_num
               ·exact S3
              case measure=>simp [intOf]; omega
           | true =>
             have HOX2:Hid (ZY k b c=false):=Lh (by rw [HOX.out]; have:=HQO.out; revert this; cases o <;> simp)
             by_cases hlti:i < nu
             ·as_aux_lemma =>
               have hltiI:(i:Int) < nu:=by omega
               obtain ⟨ub,uo,u,hA,hub,hx,hmx,d0,d1,d2,d3,d4,d5,d6,d7,d8⟩:=S.out.useAt HVU.out HNU.out hlti;subst hA;have HX:=Lh hx;have hcc:=HUC.out u hmx c wr hlt S.out.bel
               obtain ⟨r,hr⟩:∃ r,(Zau u.1).contains (c:Int)=r:=⟨_,rfl⟩
               have HRX:=Lh hr;rw [hr] at hcc;have HCC:=Lh hcc;clear hcc hr hx hmx
               cases r with
               | false =>
                 have HSK:Hid ((Zcf (ZY k b) s.pl.uses nc c i)=(Zcf (ZY k b) s.pl.uses nc c (i+1))):=Lh (Zkb HX.out HRX.out)
                 go_wp2_with (first
                 | (go_at_call 28; (with_reducible refine HCC.out.mono ?_); rintro e9 w9 ⟨rfl,k9⟩
                    have S9:=Lh (S.out.call k9)
                    clear k9))
                 go_roundw
                 case rel =>
                  refine ⟨i+1,?_,?_,?_⟩
                  ·omega
                  ·go_num
                  ·exact Lh (by rw [← HSK.out]; exact S9.out)
                 case measure=>simp [intOf]; omega
               | true =>
                 go_upto_region 27 with (first
                 | (go_at_call 28; (with_reducible refine HCC.out.mono ?_); rintro e9 w9 ⟨rfl,k9⟩
                    have S9:=Lh (S.out.call k9)
                    clear k9))
                 obtain ⟨g4,dv,hA4,x4,y4,l0,l4,f4,hS4⟩:=S9.out.chan HD.out hlt HX.out HOX2.out HRX.out;have S10:=Lh hS4;subst hA4;clear hS4 S S9 d0 d1 d2 d3 d4 d5 d6 d7 d8
                 go_wp2_with fail
                 go_roundw
                 case rel =>
                  refine ⟨i+1,?_,?_,?_⟩
                  ·omega
                  ·go_num
                  ·exact S10
                 case measure=>simp [intOf]; omega
             ·have hltiI:¬ (i:Int) < nu:=by omega
              obtain rfl:nu=i:=by omega
              have S3:Hid (MkR k w4.heap.size w3.heap.size bw bs nv nc s w (.slice none 0 0) (.slice A1 nv c1) (.slice A2 nv c2) (.slice A3 nc c3) (.slice A4 nc c4) (List.replicate nv (-1)) (ZbA k (Zd p)) (List.replicate nc (-1)) (Zha (ZY k b) s.pl.uses nc (c+1)) wr):=Lh (S.out.cnext HNU.out hc2);clear S
              go_wp2_with fail
              go_roundw
              case rel =>
               refine ⟨c+1,?_,?_,?_,?_⟩
               ·omega
               ·omega
               ·go_num
               ·exact S3
              case measure=>simp [intOf]; omega
        ·have hltI:¬ (c:Int) < nc:=by omega
         obtain rfl:nc=c:=by omega
         have HMC:Hid (MkC k B b nv nc n nu p s w):=Lh ⟨HKF2.out,HBRI.out,HS.out,HNV.out,HNC.out,HN.out,HNU.out,HIN.out,hB⟩;have S9:Hid (MkR k w4.heap.size w3.heap.size bw bs nv nc s w (.slice none 0 0) (.slice A1 nv c1) (.slice A2 nv c2) (.slice A3 nc c3) (.slice A4 nc c4) (Zkl k p 0) (ZbA k (Zd p)) (ZlU k b nv nc p 0) (Zdh k b (Zd p)) wr):=Lh (HMC.out.start S.out);have F9:Hid (wr.ownsRow w4.heap.size 74 5 (.slice none 0 0) 0 (Zem (Zi8 k b nc p 0))):=Lh (World.ownsRow_nil _ _ _ _);clear S HOU HUC HUI HUO HPIN;obtain ⟨f0,hf0,hfz0,hfz1,hfz2⟩:=info_parts ZgI
         go_wp2_with fail
         go_loopw [15] (fun i wr=>∃ (f:Nat) (AF:Option Addr) (cF:Nat),f≤n∧i = .int .i64 f∧Hid (MkR k w4.heap.size w3.heap.size bw bs nv nc s w (.slice AF f cF) (.slice A1 nv c1) (.slice A2 nv c2) (.slice A3 nc c3) (.slice A4 nc c4) (Zkl k p f) (ZbA k (Zd p)) (ZlU k b nv nc p f) (Zdh k b (Zd p)) wr)∧Hid (wr.ownsRow w4.heap.size 74 5 (.slice AF f cF) f (Zem (Zi8 k b nc p f)))) (fun i _=>n - (intOf i).toNat)
         case atStart =>
          refine ⟨0,none,0,Nat.zero_le _,rfl,S9,F9⟩
         case round =>
          clear S9 F9 e0 e1 e2 e3 e4 e5 e6 e7 e8 e9 e10 hlt2;obtain ⟨f,AF,cF,hfn,rfl,S,FW⟩:=hrel;have s0:=S.out.pa.blk;rw [HVU.out,HVP.out] at s0;have hlb:=s0.lt;obtain ⟨q0,q1,q2⟩:=s0.c3;simp at q0 q1 q2;clear s0;have b2:=S.out.kb;simp only [KK.flat,HNV.out,HNC.out,HNP.out,HNL.out,HPL.out] at b2;have hlt2:=b2.lt;obtain ⟨e0,e1,e2,e3,e4,e5,e6,e7,e8,e9,e10⟩:=b2.c11;simp at e0 e1 e2 e3 e4 e5 e6 e7 e8 e9 e10;clear b2;have bz:=S.out.sb;have hlz:=bz.lt;have HBW:Hid (w4.heap.size≤wr.heap.size):=Lh (Nat.le_trans HB4.out (Nat.le_of_lt hlz));obtain ⟨z0,z1,z2,z3,z4⟩:=bz.c5;simp at z0 z1 z2 z3 z4;clear bz
          by_cases hltf:f < n
          ·have hltfI:(f:Int) < n:=by omega
           have kd:=(Below.refl wr.heap.size wr).drew;have HLY:=Lh (HMC.out.lay (S.out.call kd) HD.out FW.out.drew' HBW.out hltf);simp only [KK.flat,HNV.out,HNC.out,HNP.out,HNL.out,HPL.out] at HLY
           have hs1:f+1≤1099511627776:=by omega
           have hs2:(f+1) * 40≤140737488355328:=by omega
           clear kd
           go_upto_region 31 with fail
           go_region_law (first
            | (refine Zc4 Tryz.underlying36 hf0 hfz0 hfz1 hfz2 rfl (by decide) F7.out hz7 rfl (.tmp 157) (.tmp 163) rfl rfl w6.heap.size 1 1 #[.int .i64 x.parent,.int .i64 x.down,.int .i64 x.above,.int .i64 x.below,.int .i64 x.temp] rfl (Blk.new w6 _ _) rfl hone hs1 hs2 ?_
               intro v8 w8 ho8 hg8 hb8 hat8;obtain ⟨A8,c8,rfl⟩:=Zv ho8;have y8:=S7.out.sb.grown hg8 (fun e=>Zg F7.out S7.out.sb (by decide) e.symm);have y0:=y8.cell 0;have y1:=y8.frozen 0;have y2:=y8.lt;simp at y0;have SF:=Lh (MkC.frame S7.out HD.out F7.out HXF.out ho8 hg8)
               clear ho8 hg8 hb8 hat8 y8)
            | (go_simp; go_at_call 29; (with_reducible refine HLY.out.mono ?_)
               rintro e1 w6 ⟨x,rfl,HXF,S6,F6⟩;have x6:=S6.out.sb;have x60:=x6.cell 0;simp at x60;have x61:=x6.lt;have kb6:=(Below.refl w6.heap.size w6).alloc (Nat.le_refl _) (.cells #[.int .i64 x.parent,.int .i64 x.down,.int .i64 x.above,.int .i64 x.below,.int .i64 x.temp] 74);have S7:=Lh (S6.out.call kb6);have F7:=Lh (F6.out.alloc (.cells #[.int .i64 x.parent,.int .i64 x.down,.int .i64 x.above,.int .i64 x.below,.int .i64 x.temp] 74));have hz7:w4.heap.size≤(w6.alloc (.cells #[.int .i64 x.parent,.int .i64 x.down,.int .i64 x.above,.int .i64 x.below,.int .i64 x.temp] 74)).heap.size:=Nat.le_trans HB4.out (Nat.le_of_lt S7.out.sb.lt)
               have hone:∀ u∈(#[.int .i64 x.parent,.int .i64 x.down,.int .i64 x.above,.int .i64 x.below,.int .i64 x.temp]:Array Value).toList,u.oneCell'=true:=by simp [Value.oneCell']
               clear x6 kb6))
           all_goals
            go_wp2_with fail
            go_roundw
            case rel =>
             refine ⟨f+1,A8,c8,?_,?_,?_,?_⟩
             ·omega
             ·go_num
             ·exact Lh SF.out.1
             ·exact Lh SF.out.2
            case measure=>simp [intOf]; omega
          ·have hltfI:¬ (f:Int) < n:=by omega
           obtain rfl:n=f:=by omega
           obtain ⟨gF,hAF,hMF⟩:=HMC.out.frames S.out HD.out FW.out;have SN:=Lh hMF;have HPR0:=Lh HMC.out.fr0_par;obtain ⟨Ag,cg,hvg⟩:=Zv S.out.pa.gp.1;rw [HNG.out] at hvg;have HVG:=Lh hvg;subst hAF;have S9:Hid (MkF k b w4.heap.size w3.heap.size bw bs nv nc n cF gF p s w (.slice A1 nv c1) (.slice A2 nv c2) (.slice A3 nc c3) (.slice A4 nc c4) ((s.pl.grp.take 0).foldl Zbc (ZlH k b nc p)) wr):=SN;clear S FW hMF SN hvg;rw [HVG.out] at q2
           go_wp2_with fail
           go_loopw [16] (fun i wr=>∃ j:Nat,j≤ng∧i = .int .i64 j∧Hid (MkF k b w4.heap.size w3.heap.size bw bs nv nc n cF gF p s w (.slice A1 nv c1) (.slice A2 nv c2) (.slice A3 nc c3) (.slice A4 nc c4) ((s.pl.grp.take j).foldl Zbc (ZlH k b nc p)) wr)) (fun i _=>ng - (intOf i).toNat)
           case atStart =>
            refine ⟨0,?_,?_,?_⟩
            ·omega
            ·rfl
            ·exact S9
           case round =>
            clear S9 e0 e1 e2 e3 e4 e5 e6 e7 e8 e9 e10 hlt2 z0 z1 z2 z3 z4 hlz q0 q1 q2 hlb;obtain ⟨i,hi,rfl,S⟩:=hrel;have bz:=S.out.m.sb;have hlz:=bz.lt;obtain ⟨z0,z1,z2,z3,z4⟩:=bz.c5;simp at z0 z1 z2 z3 z4;clear bz;have s0:=S.out.m.pa.blk;rw [HVG.out,HVP.out] at s0;have hlb:=s0.lt;obtain ⟨q0,q1,q2⟩:=s0.c3;simp at q0 q1 q2;clear s0
            by_cases hlti:i < ng
            ·as_aux_lemma =>
              have hltiI:(i:Int) < ng:=by omega
              obtain ⟨g,hg⟩:∃ g,s.pl.grp[i]? = some g:=⟨s.pl.grp[i]'(by rw [HNG.out]; exact hlti),List.getElem?_eq_getElem _⟩
              have HG:=Lh hg;obtain ⟨gg,Ai,ci,hAg,hgg,d6,hgc⟩:=S.out.group HVG.out HNG.out hg;have HPI:=Lh (parW (gs:=s.pl.grp.take i) HPR0.out HN.out);have HST:=Lh (Znk (fr0:=ZlH k b nc p) hg)
              obtain ⟨gl,hgl⟩:∃ m,g.length=m:=⟨_,rfl⟩
              have HGL:=Lh hgl
              have hglb:gl≤2048:=by
               have:=ZhO HT.out (by rw [HS.out]; exact ZiQ p) (List.mem_of_getElem? hg);rw [HN.out,hgl] at this
               omega
              rw [hgl] at d6;subst hAg;generalize (s.pl.grp.take i).foldl Zbc (ZlH k b nc p)=fri at *;clear hg hgc hgl
              go_upto_region 36 with fail
              go_wp2_with fail
              go_loopw [17,18] (fun v i2 wr=>∃ qn:Nat,qn≤gl∧i2 = .int .i64 qn∧v = .int .i64 ((g.take qn).foldl Za6 (5,fri)).1∧Hid (MkF k b w4.heap.size w3.heap.size bw bs nv nc n cF gF p s w (.slice A1 nv c1) (.slice A2 nv c2) (.slice A3 nc c3) (.slice A4 nc c4) ((g.take qn).foldl Za6 (5,fri)).2 wr)) (fun _ i2 _=>gl - (intOf i2).toNat)
              case atStart =>
               refine ⟨0,?_,?_,?_,?_⟩
               ·omega
               ·rfl
               ·rfl
               ·exact S
              case round =>
               clear S z0 z1 z2 z3 z4 hlz q0 q1 q2 hlb d6 hgg;obtain ⟨qn,hqn,rfl,rfl,S⟩:=hrel;have bz:=S.out.m.sb;have hlz:=bz.lt;obtain ⟨z0,z1,z2,z3,z4⟩:=bz.c5;simp at z0 z1 z2 z3 z4;clear bz;have s0:=S.out.m.pa.blk;rw [HVG.out,HVP.out] at s0;have hlb:=s0.lt;obtain ⟨q0,q1,q2⟩:=s0.c3;simp at q0 q1 q2;clear s0;obtain ⟨gg',Ai',ci',hAg',hgg,d6,hgc⟩:=S.out.group HVG.out HNG.out HG.out
               have hgge:gg'=gg:=by injection hAg' with h1; injection h1 with h1 h2; exact h1.symm
               subst hgge;rw [HGL.out] at d6;clear hAg'
               by_cases hltq:qn < gl
               ·as_aux_lemma =>
                 have hltqI:(qn:Int) < gl:=by omega
                 obtain ⟨f,hf⟩:∃ f,g[qn]? = some f:=⟨g[qn]'(by rw [HGL.out]; exact hltq),List.getElem?_eq_getElem _⟩
                 obtain ⟨gi,hAi,hgi,d7⟩:=hgc qn f hf;have HSQ:=Lh (Znc (st:=(5,fri)) hf);have hcur:=parW1 (g:=g.take qn) (q:=(5,fri)) HPI.out HN.out;have HMG:=Lh (And.intro (List.mem_of_getElem? HG.out) (List.mem_of_getElem? hf));generalize (g.take qn).foldl Za6 (5,fri)=cur at *;obtain ⟨d0,fr⟩:=cur
                 simp only at S hcur ⊢
                 have HKID:=Lh (HMC.out.kid (d0:=d0) HMG.out.1 HMG.out.2 hcur);clear hgc hf hcur;obtain ⟨P,x,y,d,hfn,hPn,hpf,hx,hd,hx1,hy,hst⟩:=HKID.out;have HX:=Lh hx;have HD2:=Lh hd;have HPF:=Lh hpf;have HX1:=Lh hx1;have HY:=Lh hy;have HSTEP:=Lh hst;obtain ⟨a0,a1,a2,a3,a4⟩:=S.out.f.cell hx;have f1:=S.out.f.frozen (f * 5+1);have hlg:=S.out.f.lt;have S1:Hid (MkF k b w4.heap.size w3.heap.size bw bs nv nc n cF gF p s w (.slice A1 nv c1) (.slice A2 nv c2) (.slice A3 nc c3) (.slice A4 nc c4) (fr.set f ⟨x.parent,d,x.above,x.below,x.temp⟩) ((wr.setCell ⟨gF,f * 5+1,none⟩ (.int .i64 d)).drew)):=Lh (MkF.drew (S.out.set (i:=1) (u:=.int .i64 d) (x':=⟨x.parent,d,x.above,x.below,x.temp⟩) HX.out (by decide) rfl));subst hAi;clear hpf hx hx1 hy hst HKID
                 have hfnI:(f:Int) < n:=by omega
                 have hPnI:(P:Int) < n:=by omega
                 go_upto_region 40 with fail
                 refine ZG 13 (by kernel_rfl) (by kernel_rfl) ?_;simp only [List.take_succ_cons,List.take_zero,List.drop_succ_cons,List.drop_zero]
                 repeat go_big_quiet_step (fail)
                 refine wpQuiet_nil ?_
                 go_upto_region 41 with fail
                 rw [HD2.out];generalize (wr.setCell ⟨gF,f * 5+1,none⟩ (.int .i64 d)).drew=w2 at *;obtain ⟨gp,hAp,hgp,xp⟩:=S1.out.par HVP.out HN.out HPF.out;have hvp2:=HVP.out;rw [hAp] at hvp2;have HVP2:=Lh hvp2;clear S z0 z1 z2 z3 z4 hlz q0 q1 q2 hlb a0 a1 a2 a3 a4 f1 hlg d6 d7 hgi hgg hvp2 hd;have bz:=S1.out.m.sb;have hlz:=bz.lt;obtain ⟨z0,z1,z2,z3,z4⟩:=bz.c5;simp at z0 z1 z2 z3 z4;clear bz;have s0:=S1.out.m.pa.blk;rw [HVP2.out] at s0;have hlb:=s0.lt;obtain ⟨q0,q1,q2⟩:=s0.c3;simp at q0 q1 q2;clear s0;obtain ⟨a0,a1,a2,a3,a4⟩:=S1.out.f.cell HX1.out
                 simp only at a0 a1 a2 a3 a4
                 obtain ⟨y0,y1,y2,y3,y4⟩:=S1.out.f.cell HY.out;have f3:=S1.out.f.frozen (P * 5+3);have hlg:=S1.out.f.lt;have S2:Hid (MkF k b w4.heap.size w3.heap.size bw bs nv nc n cF gF p s w (.slice A1 nv c1) (.slice A2 nv c2) (.slice A3 nc c3) (.slice A4 nc c4) ((fr.set f ⟨x.parent,d,x.above,x.below,x.temp⟩).set P ⟨y.parent,y.down,y.above,max y.below (wrap64 (d+x.below)),y.temp⟩) ((w2.setCell ⟨gF,P * 5+3,none⟩ (.int .i64 (max y.below (wrap64 (d+x.below))))).drew.drew)):=Lh (MkF.drew (MkF.drew (S1.out.set (i:=3) (u:=.int .i64 (max y.below (wrap64 (d+x.below)))) (x':=⟨y.parent,y.down,y.above,max y.below (wrap64 (d+x.below)),y.temp⟩) HY.out (by decide) rfl)));refine ZG 13 (by kernel_rfl) (by kernel_rfl) ?_;simp only [List.take_succ_cons,List.take_zero,List.drop_succ_cons,List.drop_zero]
                 repeat go_big_quiet_step (fail)
                 refine wpQuiet_nil ?_
                 go_upto_region 42 with fail
                 refine ZG 25 (by kernel_rfl) (by kernel_rfl) ?_;simp only [List.take_succ_cons,List.take_zero,List.drop_succ_cons,List.drop_zero]
                 repeat go_big_quiet_step (fail)
                 refine wpQuiet_nil ?_
                 go_wp2_with fail
                 go_roundw
                 case rel =>
                  refine ⟨qn+1,?_,?_,?_,?_⟩
                  ·omega
                  ·go_num
                  ·rw [HSQ.out,HSTEP.out]
                  ·exact Lh (by rw [HSQ.out,HSTEP.out]; exact S2.out)
                 case measure=>simp [intOf]; omega
               ·have hltqI:¬ (qn:Int) < gl:=by omega
                obtain rfl:gl=qn:=by omega
                have htk:g.take gl=g:=List.take_of_length_le (by rw [HGL.out]; omega);rw [htk] at S;clear htk hgc
                go_wp2_with fail
                go_roundw
                case rel =>
                 refine ⟨i+1,?_,?_,?_⟩
                 ·omega
                 ·go_num
                 ·exact Lh (by rw [HST.out]; exact S.out)
                case measure=>simp [intOf]; omega
            ·have hltiI:¬ (i:Int) < ng:=by omega
             obtain rfl:ng=i:=by omega
             obtain ⟨x0,hx0,htall⟩:=HMC.out.first HP.out HNG.out;obtain ⟨a0,a1,a2,a3,a4⟩:=S.out.f.cell hx0;have hlg:=S.out.f.lt;have HTALL:=Lh htall
             have hposI:(0:Int) < n:=by omega
             simp only [Nat.zero_mul,Nat.zero_add] at a0 a1 a2 a3 a4;have hN:=S.out.none_ret (e:=240);have hS:=HMC.out.some_ret HP.out HNG.out S.out
             obtain ⟨WN,hWN⟩:∃ W,(((((wr.setCell ⟨w.heap.size+1,0,none⟩ (.slice none 0 0)).setCell ⟨w.heap.size+1,1,none⟩ (.slice none 0 0)).setCell ⟨w.heap.size+1,2,none⟩ (.slice none 0 0)).setCell ⟨w.heap.size+1,3,none⟩ (.slice none 0 0)).setCell ⟨w.heap.size+1,4,none⟩ (.slice none 0 0))=W:=⟨_,rfl⟩
             obtain ⟨WS,hWS⟩:∃ W,(((((wr.setCell ⟨w.heap.size+1,0,none⟩ (.slice (some ⟨gF,0,none⟩) n cF)).setCell ⟨w.heap.size+1,1,none⟩ (.slice A1 nv c1)).setCell ⟨w.heap.size+1,2,none⟩ (.slice A2 nv c2)).setCell ⟨w.heap.size+1,3,none⟩ (.slice A3 nc c3)).setCell ⟨w.heap.size+1,4,none⟩ (.slice A4 nc c4))=W:=⟨_,rfl⟩
             rw [hWN] at hN;rw [hWS] at hS;have HNR:=Lh hN;have HSR:=Lh hS;have zr:=S.out.m.rb;have hzr:=zr.lt;simp only [Zdb] at zr;obtain ⟨m0,m1,m2,m3,m4⟩:=zr.z5;obtain ⟨r0,r1,r2,r3,r4⟩:=zr.c5;simp at r0 r1 r2 r3 r4;clear hx0 htall hN hS zr
             go_upto_region 43 with fail
             refine ZG 11 (by kernel_rfl) (by kernel_rfl) ?_;simp only [List.take_succ_cons,List.take_zero,List.drop_succ_cons,List.drop_zero]
             repeat go_big_quiet_step (fail)
             refine wpQuiet_nil ?_
             go_upto_if 259 with fail
             generalize hq16:decide (16384 < wrap64 (x0.above+x0.below))=q16;have HQ16:=Lh hq16;clear hq16
             cases q16 with
             | true =>
               have HE:Hid (RS=(ZaJ,240)):=Lh (by rw [← HRS2.out,HTALL.out,HQ16.out]; rfl)
               go_wp2_with fail
               (try rw [hWN])
               (try simp only [Exit.inBlock,Exit.then])
               refine bodyPost_ret (Ze rfl _ _ (w.heap.size+1) _ Zdb (0,0) _ (.int .i64 240) rfl rfl HNR.out.1 Tryz.underlying38 rfl ZaO) rfl ?_;rw [HE.out];exact HNR.out.2.drew24
             | false =>
               have HE:Hid (RS=(Zs k b,0)):=Lh (by rw [← HRS2.out,HTALL.out,HQ16.out]; rfl)
               go_wp2_with fail
               (try rw [hWS])
               (try simp only [Exit.inBlock,Exit.then])
               refine bodyPost_ret (Ze rfl _ _ (w.heap.size+1) _ #[.slice (some ⟨gF,0,none⟩) n cF,.slice A1 nv c1,.slice A2 nv c2,.slice A3 nc c3,.slice A4 nc c4] (0,0) _ (.int .i64 0) rfl rfl HSR.out.1 Tryz.underlying38 rfl ZaO) rfl ?_;rw [HE.out];exact HSR.out.2.drew24
end
end Go.Proofs.YtjndhfcfcedheaaGreatDoor
