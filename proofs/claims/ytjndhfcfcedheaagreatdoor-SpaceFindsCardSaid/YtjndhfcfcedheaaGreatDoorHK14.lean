/- Texts that belong together: CN CO UW UV UX RW UY VD. -/
import Derived.Test.YtjndhfcfcedheaaGreatDoorHK12
import Derived.Test.YtjndhfcfcedheaaGreatDoorHK4
import Derived.Test.YtjndhfcfcedheaaGreatDoorHK13
import Derived.Laws.EntriesVeiled
import Derived.Test.YtjndhfcfcedheaaGreatDoorHK3
import Derived.Test.YtjndhfcfcedheaaGreatDoorHK10
import Derived.Test.YtjndhfcfcedheaaGreatDoorHK8
import Derived.Test.YtjndhfcfcedheaaGreatDoorHK9
set_option linter.unusedVariables false
set_option linter.unusedSimpArgs false
set_option maxRecDepth 100000
set_option maxHeartbeats 16000000
namespace Go.Proofs.YtjndhfcfcedheaaGreatDoor
open Go.RowKit
theorem Zqi (e:KE) (hf:Zq e=true) (ht:∀ x∈e.l,ZT x≤1000) (A:Option Addr) (c:Nat) (w:World) (hr:Zo w w.heap.size 4 A e.l.length (Zgz (e.l.map Zce))) (hq:ZP w) :
  Calls Tryz.prog 61 #[.agg e.cells,.slice A e.l.length c] w (Zu (.agg (Zce e).cells) w):=by
 have hlen:=Zbv hf
 match hl:e.l with
 | [] =>
   rw [← ZpY hl];exact Zql e A c w
 | [a] =>
   rw [hl] at hr;rw [← ZpX hf hl];have hra:=ZbR a;have hta:=ht a (by rw [hl]; simp);exact Zqk e (Zce a) ⟨by simp only [Zce]; omega,hta⟩ (fun h=>by have:=hlen.2.1 (by rw [hl]; rfl) h; omega) A c w hr hq
 | [a,b] =>
   rw [hl] at hr;rw [← ZpW hf hl];have hra:=ZbR a;have hrb:=ZbR b;have hta:=ht a (by rw [hl]; simp);have htb:=ht b (by rw [hl]; simp);exact Zqj e (Zce a) (Zce b) ⟨hra.1,hra.2,hta⟩ ⟨hrb.1,hrb.2,htb⟩ (by have:=hlen.2.2 (by rw [hl]; rfl); omega) A c w hr hq
 | a :: b :: x :: r=>rw [hl] at hlen; simp at hlen
theorem Zld:(Tryz.prog.info? 102).map (fun i=>(i.zero,i.size,i.bytes))=some (some (.agg ZaU),4,24):=by kernel_rfl
theorem ZmX {w w':World} {g base e size n:Nat} {v:Value} {xs:List Value} (h:w.ownsRow base e size v n xs) (hu:Za0 g w w') (hg:g < base):w'.ownsRow base e size v n xs:=by
 refine ⟨h.1,?_⟩
 rcases h.2 with hn | ⟨b,cap,cur,rfl,hb',hgg,rest⟩
 ·exact .inl hn
 ·refine .inr ⟨b,cap,cur,rfl,hb',?_,rest⟩;rw [hu.block b (Array.getElem?_eq_some_iff.1 hgg).1 (by omega)];exact hgg
theorem Za0.new {g:Nat} {w w':World} (h:Za0 g w w') {p:Addr} (hp:w.heap.size≤p.block) (u:Value):Za0 g w (w'.setCell p u) :=
 ⟨h.os,h.tape,h.output,by simpa [World.setCell] using h.size,fun k hk hne=>(Below.heap_setCell w' p u k (by rintro rfl; omega)).trans (h.block k hk hne)⟩
theorem Za0.grown {g:Nat} {w w1 w2:World} (h:Za0 g w w1) {row:Option Nat} (hg:w1.grownBy w2 row) (hr:∀ k,row=some k→w.heap.size≤k):Za0 g w w2 :=
 ⟨hg.os.trans h.os,hg.tape.trans h.tape,hg.output.trans h.output,Nat.le_trans h.size hg.size,fun k hk hne=>(hg.block k (Nat.lt_of_lt_of_le hk h.size) (fun e=>by have:=hr k e.symm; omega)).trans (h.block k hk hne)⟩
theorem ZP.upd {g:Nat} {w w':World} (h:ZP w) (hu:Za0 g w w') (hg:Zae≠g):ZP w':=by
 obtain ⟨t,fr,h1⟩:=h;exact ⟨t,fr,(hu.block _ (ZP.lt ⟨t,fr,h1⟩) hg).trans h1⟩
theorem Zfw:∀ {l:List KE} {inside left r:Nat},Z8 inside left l=some r→∀ x∈l,ZT x+1≤left
 | [],_,_,_,_,x,hx=>by cases hx
 | y :: l,inside,left,r,h,x,hx=>by
   rw [Z8] at h
   cases hy:ZU inside left y with
   | none=>rw [hy] at h; cases h
   | some r1 =>
     rw [hy] at h;have h1:=Zgn hy
     rcases List.mem_cons.1 hx with rfl | hx
     ·omega
     ·have:=Zfw h x hx
      omega
def msV (R:Option Nat) (x:KE):Array Value:=match R with
 | none=>ZaU
 | some _=>(Zce x).cells
def Zpb (R:Option Nat) (x:KE) (bl:Nat) (w:World) (e:Ending) (w':World):Prop :=
 Za0 bl w w'∧∃ z:Int,e = .returned (.agg (msV R x))∧Blk w' bl 3 #[.int .i64 z]∧∀ r:Nat,R=some r→z=r
def msF (bl bv:Nat):Array Value:=#[.func (.func 59) #[] #[.pointer (some ⟨bl,0,none⟩),.pointer (some ⟨bv,0,none⟩)]]
def MsOk (x:KE):Prop:=∀ (deep left bl bv B:Nat) (w:World),deep≤32→left≤256→x.In w B→B≤bl→bl≠bv→Zae < B→ZP w→Blk w bl 3 #[.int .i64 left]→Blk w bv 123 (msF bl bv) →
 Calls Tryz.prog 59 #[.agg x.cells,.int .i64 ((deep:Int)+1),.pointer (some ⟨bl,0,none⟩),.pointer (some ⟨bv,0,none⟩)] w (Zpb (ZU deep left x) x bl w)
theorem ZhE {fn:Func} {p:Tmp} (h:fn.results=#[.cell p 102]) (tmps:Array Value) (w W:World) (g bl:Nat) (R:Option Nat) (x:KE) (cs:Array Value) (hcs:cs=msV R x) (hp:tmps.getD p undef = .pointer (some ⟨g,0,none⟩)) (hB:Blk W g 102 cs)
  (hk:Za0 bl w W) (z:Int) (hz:Blk W bl 3 #[.int .i64 z]) (hR:∀ r:Nat,R=some r→z=r) :
  bodyPost Tryz.prog fn (Zpb R x bl w) Exit.ret { tmps:=tmps,defers:=[] } W:=by
 subst hcs;refine bodyPost_ret (v:=.agg (msV R x)) (results_cell_row h _ _ g _ _ (0,0) _ hp hB Tryz.underlying102 rfl ?_) rfl ⟨hk,z,rfl,hz,hR⟩
 cases R <;> exact ZfK
theorem Zle {w W:World} {g bl:Nat} (q:Array Value) (x0 x1 x2 x3:Value) (hq:q=#[x0,x1,x2,x3]) (hB:Blk W g 102 ZaU) (hk:Za0 bl w W) (hg:w.heap.size≤g) (z:Int) (hz:Blk W bl 3 #[.int .i64 z]) (hne:bl≠g) :
  Blk ((((W.setCell ⟨g,0,none⟩ x0).setCell ⟨g,1,none⟩ x1).setCell ⟨g,2,none⟩ x2).setCell ⟨g,3,none⟩ x3) g 102 q ∧
   Za0 bl w ((((W.setCell ⟨g,0,none⟩ x0).setCell ⟨g,1,none⟩ x1).setCell ⟨g,2,none⟩ x2).setCell ⟨g,3,none⟩ x3) ∧
   Blk ((((W.setCell ⟨g,0,none⟩ x0).setCell ⟨g,1,none⟩ x1).setCell ⟨g,2,none⟩ x2).setCell ⟨g,3,none⟩ x3) bl 3 #[.int .i64 z]:=by
 subst hq;exact ⟨hB.need rfl _ _ _ _,(((hk.new hg _).new hg _).new hg _).new hg _,(((hz.far hne _).far hne _).far hne _).far hne _⟩
theorem ZlP (e:KE):MsOk e:=by
 induction e using KE.ind with
 | h e ih =>
   intro deep left bl bv B w hd hl hi hB hlv hqB hqa hbl hbv;have hlt:=hbl.lt;have hvt:=hbv.lt
   obtain ⟨W0,hW0⟩:∃ W,(w.alloc (.cells e.cells 65)).alloc (.cells ZaU 102)=W:=⟨_,rfl⟩
   have b4:Blk W0 w.heap.size 65 e.cells:=by rw [← hW0]; exact (Blk.new w _ _).alloc _
   have b5:Blk W0 (w.heap.size+1) 102 ZaU:=by rw [← hW0]; exact Z5 w _ _ _
   have K0:Hid (Below w.heap.size w W0):=Lh (by rw [← hW0]; exact ZeP w _ _)
   have hsz:W0.heap.size=w.heap.size+2:=by rw [← hW0]; simp
   have bl0:=hbl.call K0.out;have bv0:=hbv.call K0.out;have HE:=Zci deep left e;have HK:=hi.one.1.1;have HO1:=hi.one.1;have HIN:=Lh hi;have HIH:=Lh ih
   obtain ⟨W1,hW1⟩:∃ W,W0.setCell ⟨bl,0,none⟩ (.int .i64 ((left:Int) - 1))=W:=⟨_,rfl⟩
   have U1:Hid (Za0 bl w W1):=Lh (by rw [← hW1]; exact (Za0.of_below K0.out).trans (Za0.set W0 0 _))
   have bl1:Blk W1 bl 3 #[.int .i64 ((left:Int) - 1)]:=by rw [← hW1]; simpa using bl0.set_ 0 (.int .i64 ((left:Int) - 1))
   have bv1:Blk W1 bv 123 (msF bl bv):=by rw [← hW1]; exact bv0.far (Ne.symm hlv) _
   have b41:Blk W1 w.heap.size 65 e.cells:=by rw [← hW1]; exact b4.far (by simp; omega) _
   have b51:Blk W1 (w.heap.size+1) 102 ZaU:=by rw [← hW1]; exact b5.far (by simp; omega) _
   have hsz1:W1.heap.size=w.heap.size+2:=by rw [← hW1,← hsz]; simp [World.setCell]
   have HF:=Lh (Zqh e W1 HO1.2.2.2.1 HO1.2.2.2.2.1 HO1.2.2.2.2.2);have HQ1:Hid (ZP W1):=Lh (hqa.upd U1.out (by omega));simp only [KE.cells,ZaU] at hW0 b4 b41 HF b51 ⊢;have c0:=bl0.cell 0;have f0:=bl0.frozen 0;have d0:=bl1.cell 0;simp at c0 d0;obtain ⟨e0,e1,e2,e3,e4,e5⟩:=b41.c6;simp at e0 e1 e2 e3 e4 e5;obtain ⟨x0,x1,x2,x3⟩:=b51.c4;simp at x0 x1 x2 x3;obtain ⟨y0,y1,y2,y3⟩:=b51.z4;have b41':=Lh b41;have b51':Hid (Blk W1 (w.heap.size+1) 102 ZaU):=Lh b51;have HB1:=Lh bl1;have HBV:=Lh bv1
   have z1:w.heap.size < W1.heap.size:=by omega
   have z2:w.heap.size+1 < W1.heap.size:=by omega
   generalize hR:ZU deep left e=R at *;have HEE:=Lh HE;clear HE ih hi hbl hbv b4 b5 bl0 bv0 bl1 bv1 b41 b51 K0 hqa hR HO1
   have FIL:Hid (∀ (W:World) (q:Array Value) (z:Int) (x0 x1 x2 x3:Value),q=#[x0,x1,x2,x3]→Blk W (w.heap.size+1) 102 ZaU→Za0 bl w W→Blk W bl 3 #[.int .i64 z] →
    Blk ((((W.setCell ⟨w.heap.size+1,0,none⟩ x0).setCell ⟨w.heap.size+1,1,none⟩ x1).setCell ⟨w.heap.size+1,2,none⟩ x2).setCell ⟨w.heap.size+1,3,none⟩ x3) (w.heap.size+1) 102 q ∧
    Za0 bl w ((((W.setCell ⟨w.heap.size+1,0,none⟩ x0).setCell ⟨w.heap.size+1,1,none⟩ x1).setCell ⟨w.heap.size+1,2,none⟩ x2).setCell ⟨w.heap.size+1,3,none⟩ x3) ∧
    Blk ((((W.setCell ⟨w.heap.size+1,0,none⟩ x0).setCell ⟨w.heap.size+1,1,none⟩ x1).setCell ⟨w.heap.size+1,2,none⟩ x2).setCell ⟨w.heap.size+1,3,none⟩ x3) bl 3 #[.int .i64 z]):=Lh fun W q z x0 x1 x2 x3 hq h1 h2 h3=>Zle q x0 x1 x2 x3 hq h1 h2 (by omega) z h3 (by omega)
   by_cases h0:left=0
   ·have h0I:(left:Int) - 1 < 0:=by omega
    obtain rfl:R=none:=by rw [HEE.out]; simp [h0]
    clear h0;go_enter Tryz.func59,Tryz.ntmps59
    go_wp2_with fail
    obtain ⟨y1,y2,y3⟩:=FIL.out W1 ZaU ((left:Int) - 1) _ _ _ _ rfl b51'.out U1.out HB1.out;exact ZhE rfl _ w _ (w.heap.size+1) bl none e ZaU rfl rfl y1 y2 _ y3 (fun r h=>by cases h)
   ·have h0I:¬ (left:Int) - 1 < 0:=by omega
    by_cases hdp:32≤deep
    ·have hdI:(32:Int) < (deep:Int)+1:=by omega
     obtain rfl:R=none:=by rw [HEE.out]; simp [hdp]
     go_enter Tryz.func59,Tryz.ntmps59
     go_wp2_with fail
     obtain ⟨y1,y2,y3⟩:=FIL.out W1 ZaU ((left:Int) - 1) _ _ _ _ rfl b51'.out U1.out HB1.out;exact ZhE rfl _ w _ (w.heap.size+1) bl none e ZaU rfl rfl y1 y2 _ y3 (fun r h=>by cases h)
    ·have hdI:¬ (32:Int) < (deep:Int)+1:=by omega
     cases hfb:Zq e with
     | false =>
       rw [hfb] at HF
       obtain rfl:R=none:=by rw [HEE.out,hfb]; simp
       clear hfb;go_enter Tryz.func59,Tryz.ntmps59
       go_wp2_with (go_at_call 60; (with_reducible refine HF.out.mono ?_); rintro e1 w2 ⟨rfl,hb2⟩
                    have K2:=Lh hb2;have g6:=Blk.call b51'.out hb2;have hs2:=hb2.size;simp only [ZaU] at g6;obtain ⟨p0,p1,p2,p3⟩:=g6.c4;simp at p0 p1 p2 p3;obtain ⟨q0,q1,q2,q3⟩:=g6.z4
                    clear hb2 g6)
       obtain ⟨y1,y2,y3⟩:=FIL.out w2 ZaU ((left:Int) - 1) _ _ _ _ rfl (b51'.out.call K2.out) (U1.out.trans (Za0.of_below K2.out)) (HB1.out.call K2.out);exact ZhE rfl _ w _ (w.heap.size+1) bl none e ZaU rfl rfl y1 y2 _ y3 (fun r h=>by cases h)
     | true =>
       rw [hfb] at HF;have HFB:=Lh hfb;have HRE:Hid (R=Z8 (deep+1) (left - 1) e.l):=Lh (by rw [HEE.out,hfb]; simp [h0,hdp]);have hlen:=(Zbv hfb).1;have HLT:=Lh hlt;clear hfb HEE;go_enter Tryz.func59,Tryz.ntmps59
       go_wp2_with (go_at_call 60; (with_reducible refine HF.out.mono ?_); rintro e1 w2 ⟨rfl,hb2⟩
                    have K2:=Lh hb2;have hs2:=hb2.size;have g5:=(Blk.call b41'.out hb2).cell 5;simp at g5
                    clear hb2)
       go_loopw [7,28] (fun a i wr=>∃ (k r:Nat) (A:Option Addr) (c:Nat),k≤e.l.length∧i = .int .i64 k∧a = .slice A k c∧r≤256∧Hid (Z8 (deep+1) (left - 1) (e.l.take k)=some r)∧Hid (Za0 bl w2 wr)∧Hid (Blk wr bl 3 #[.int .i64 r])∧Hid (wr.ownsRow w2.heap.size 102 4 (.slice A k c) k (Zgz ((e.l.take k).map Zce)))) (fun _ i _=>e.l.length - (intOf i).toNat)
       case atStart =>
        refine ⟨0,left - 1,none,0,Nat.zero_le _,rfl,rfl,by omega,Lh (by rw [List.take_zero,Z8]),Lh (Za0.refl _ _),Lh ?_,Lh (World.ownsRow_nil _ _ _ _)⟩;have:=HB1.out.call K2.out
        rwa [show ((left:Int) - 1)=((left - 1:Nat):Int) by omega] at this
       case round =>
        obtain ⟨k,r,A,c,hk,rfl,rfl,hr,HRM,U,L,O⟩:=hrel;have UT:Za0 bl w wr:=(U1.out.trans (Za0.of_below (K2.out))).trans U.out;have hwr:=U.out.size;have hwr2:=UT.size
        by_cases hlt:k < e.l.length
        ·have hltI:(k:Int) < e.l.length:=by omega
         obtain ⟨b,off,x,hA,hb,hx,hin,r0,r1,r2,r3,r4,r5⟩:=Zba (HIN.out.parts.below ((UT.below HLT.out).mono hB)) hlt
         have G6:=((b51'.out.call K2.out).upd U.out (by omega))
         have hblt:=HLT.out;have HIHx:=HIH.out x (List.mem_of_getElem? hx);rw [hA] at g5 ⊢
         obtain ⟨Wc,hWc⟩:∃ W,wr.alloc (.cells x.cells 65)=W:=⟨_,rfl⟩
         have Kc:Below wr.heap.size wr Wc:=by rw [← hWc]; exact (Below.refl _ _).alloc (Nat.le_refl _) _
         have bvc:Blk Wc bv 123 (msF bl bv):=(((HBV.out.call K2.out).upd U.out (Ne.symm hlv)).call Kc)
         have HCx:=Lh (HIHx (deep+1) r bl bv B Wc (by omega) hr (hin.below (Kc.mono (by have:=HLT.out; omega))) hB hlv hqB (((HQ1.out.upd (Za0.of_below (g:=bl) K2.out) (by omega)).upd U.out (by omega)).below Kc (by have:=HLT.out; omega)) (L.out.call Kc) bvc)
         have hbr:b < wr.heap.size:=by have:=HLT.out; omega
         have cbv:=bvc.cell 0
         simp [msF] at cbv
         have HRS:Hid (∀ R',ZU (deep+1) r x=R'→(R'=none→Z8 (deep+1) (left - 1) e.l=none)∧(∀ r',R'=some r'→Z8 (deep+1) (left - 1) (e.l.take (k+1))=some r'∧r'≤256)):=Lh fun R' h=>⟨fun h1=>Zdt hx HRM.out (h.trans h1),fun r' h1=>⟨by rw [Zcp hx HRM.out,h,h1],by have:=Zec x _ _ _ (h.trans h1); omega⟩⟩
         have HTK:Hid (e.l.take (k+1)=e.l.take k++[x]):=Lh (by rw [List.take_add_one,hx]; rfl);have HOc:=Lh (O.out.alloc (.cells x.cells 65));rw [hWc] at HOc;have UTc:=Lh (UT.trans (Za0.of_below Kc));have Uc:=Lh (U.out.trans (Za0.of_below Kc))
         obtain ⟨R',hR'⟩:∃ R',ZU (deep+1) r x=R':=⟨_,rfl⟩
         obtain ⟨hRn,hRs⟩:=HRS.out R' hR';rw [hR'] at HCx
         have hdd:((deep+1:Nat):Int)+1=(deep:Int)+1+1:=by omega
         rw [hdd] at HCx;have HG6:=Lh (G6.call Kc)
         have b9:Blk Wc wr.heap.size 65 x.cells:=by rw [← hWc]; exact Blk.new _ _ _
         simp only [KE.cells] at hWc HCx b9;obtain ⟨v0,v1,v2,v3,v4,v5⟩:=b9.c6;simp at v0 v1 v2 v3 v4 v5;clear b9 hdd hx hin hA HIHx Kc bvc UT HRS hR' G6
         have hszc:Wc.heap.size=wr.heap.size+1:=by rw [← hWc]; simp
         have hgo:∀ a b:Int,a+1+1=a+1+1:=fun _ _=>rfl
         cases R' with
         | none =>
           have HN:=Lh (hRn rfl);clear hRn hRs hgo
           go_wp2_with (go_at_call 59; (with_reducible refine HCx.out.mono ?_); rintro e3 w3 ⟨hu,z,he,hb3,-⟩
                        obtain rfl:e3 = .returned (.agg #[.bool false,.bool false,.int .i64 0,.int .i64 0]):=he;have HU:=Lh hu;have HB3:=Lh hb3;have hs3:=hu.size;have g6:=HG6.out.upd hu (by omega);have HG3:=Lh g6;simp only [ZaU] at g6;obtain ⟨p0,p1,p2,p3⟩:=g6.c4;simp at p0 p1 p2 p3;obtain ⟨q0,q1,q2,q3⟩:=g6.z4;have p4:=g6.lt
                        have p5:¬ w.heap.size+1=w3.heap.size:=by omega
                        clear hu hb3 g6)
           obtain ⟨y1,y2,y3⟩:=FIL.out w3 ZaU z _ _ _ _ rfl HG3.out (UTc.out.trans HU.out) HB3.out;exact ZhE rfl _ w _ (w.heap.size+1) bl R e ZaU (by rw [HRE.out,HN.out]; rfl) rfl (y1.alloc _) (y2.trans (Za0.alloc _ _)) z (y3.alloc _) (fun r h=>by rw [HRE.out,HN.out] at h; cases h)
         | some r' =>
           obtain ⟨hRT,hr'⟩:=hRs r' rfl;have HRT:=Lh hRT;clear hRn hRs hgo hRT;obtain ⟨i0,hi0,hz0,hz1,hz2⟩:=info_parts Zld
           go_wp2_with first
            | (go_at_call 59; (with_reducible refine HCx.out.mono ?_); rintro e3 w3 ⟨hu,z,he,hb3,hz⟩
               obtain rfl:e3 = .returned (.agg #[.bool true,.bool (ZdA x),.int .i64 (ZQ x),.int .i64 (ZT x)]):=he;obtain rfl:z=r':=hz r' rfl;have HU:=Lh hu;have HB3:=Lh hb3;have hs3:=hu.size;have HO3:=Lh (ZmX HOc.out hu (by omega))
               clear hu hb3 hz)
            | (at_builtin; refine Zcb Tryz.underlying125 hi0 hz0 hz1 hz2 rfl (by decide) ((HO3.out.alloc _).alloc _) (by simp; omega) rfl (.tmp 41) (.tmp 43) rfl rfl (w3.heap.size+1) 1 1 #[.bool true,.bool (ZdA x),.int .i64 (ZQ x),.int .i64 (ZT x)] rfl (Z5 w3 _ _ _) rfl (by simp [Value.oneCell']) (by omega) (by omega) ?_; intro v' w' hown hg hb hat
               obtain ⟨A2,c2,rfl⟩:=Zv hown;have U2:=Lh ((((Uc.out.trans HU.out).trans (Za0.alloc w3 _)).trans (Za0.alloc _ _)).grown hg (fun k hk=>(HO3.out.lt k hk).1));have L2:=Lh (((HB3.out.alloc _).alloc _).grown hg (fun e=>by have:=(HO3.out.lt _ e.symm).1; omega))
               have O2:Hid (w'.ownsRow w2.heap.size 102 4 (.slice A2 (k+1) c2) (k+1) (Zgz ((e.l.take (k+1)).map Zce))):=Lh (by
                rw [HTK.out,List.map_append]
                simpa [Zgz,Zce,ZdF.cells] using hown)
               clear hown hg hb hat)
           go_roundw
           case rel=>exact ⟨k+1,r',A2,c2,by omega,by go_num,rfl,hr',HRT,U2,L2,O2⟩
           case measure=>simp [intOf]; omega
        ·have hltI:¬ (k:Int) < e.l.length:=by omega
         obtain rfl:k=e.l.length:=by omega
         have hRM:=HRM.out;rw [List.take_of_length_le (Nat.le_refl _)] at hRM;have hO:=O.out;rw [List.take_of_length_le (Nat.le_refl _)] at hO;have HJ:=Lh (Zqi e HFB.out (fun x hx=>by have:=Zfw hRM x hx; omega) A c wr (Zo.of_own hO) ((HQ1.out.upd (Za0.of_below (g:=bl) K2.out) (by have:=HLT.out; omega)).upd U.out (by have:=HLT.out; omega)));have HRR:Hid (R=some r):=Lh (HRE.out.trans hRM);simp only [KE.cells,Zce,ZdF.cells] at HJ;have hblt:=HLT.out;have g4:=(b41'.out.call K2.out).upd U.out (by omega);have g6:=(b51'.out.call K2.out).upd U.out (by omega);obtain ⟨v0,v1,v2,v3,v4,v5⟩:=g4.c6;simp at v0 v1 v2 v3 v4 v5;have HG6:=Lh g6;have UTT:=Lh UT;have z3:w.heap.size < wr.heap.size:=g4.lt;have z4:w.heap.size+1 < wr.heap.size:=g6.lt;clear hO hRM g4 g6 UT
         go_wp2_with first
          | (go_at_call 61; (with_reducible refine HJ.out.mono ?_); rintro e3 w3 ⟨rfl,hb3⟩
             have K3:=Lh hb3;have hs3:=hb3.size;have h6:=HG6.out.call hb3;simp only [ZaU] at h6;obtain ⟨p0,p1,p2,p3⟩:=h6.c4;simp at p0 p1 p2 p3;obtain ⟨q0,q1,q2,q3⟩:=h6.z4
             clear hb3 h6)
         obtain ⟨y1,y2,y3⟩:=FIL.out w3 (Zce e).cells r _ _ _ _ rfl (HG6.out.call K3.out) (UTT.out.trans (Za0.of_below K3.out)) (L.out.call K3.out);exact ZhE rfl _ w _ (w.heap.size+1) bl R e (Zce e).cells (by rw [HRR.out]; rfl) rfl y1 y2 _ y3 (fun r2 h=>by rw [HRR.out] at h; cases h; rfl)
theorem ZiW (R:Option Nat) (x:KE):∃ (b1 b2:Bool) (n1 n2:Nat),msV R x=#[.bool b1,.bool b2,.int .i64 n1,.int .i64 n2]∧n1=(if R.isSome then ZQ x else 0)∧n2=(if R.isSome then ZT x else 0)∧b2=(R.isSome && ZdA x):=by
 cases R with
 | none=>exact ⟨_,_,0,0,rfl,rfl,rfl,rfl⟩
 | some r=>exact ⟨_,_,_,_,rfl,rfl,rfl,rfl⟩
theorem Znz (e:KE) (B:Nat) (w:World) (hi:e.In w B) (hB:B≤w.heap.size) (hqB:Zae < B) (hq:ZP w):Calls Tryz.prog 44 #[.agg e.cells] w (Zu (.agg (msV (ZU 0 256 e) e)) w):=by
 obtain ⟨W3,hW3⟩:∃ W,((w.alloc (.cells e.cells 65)).alloc (.cells ZaU 102)).alloc (.cells #[.int .i64 256] 3)=W:=⟨_,rfl⟩
 have hs3:W3.heap.size=w.heap.size+1+1+1:=by rw [← hW3]; simp
 obtain ⟨W0,hW0⟩:∃ W,W3.alloc (.cells (msF (w.heap.size+1+1) W3.heap.size) 123)=W:=⟨_,rfl⟩
 have hk3:Below w.heap.size w W3:=by rw [← hW3]; exact (ZeP w _ _).alloc (by simp; omega) _
 have hk:Below w.heap.size w W0:=by rw [← hW0]; exact hk3.alloc (by omega) _
 have b3:Blk W0 w.heap.size 65 e.cells:=by rw [← hW0,← hW3]; exact (((Blk.new w _ _).alloc _).alloc _).alloc _
 have b4:Blk W0 (w.heap.size+1) 102 ZaU:=by rw [← hW0,← hW3]; exact ((Z5 w _ _ _).alloc _).alloc _
 have b5:Blk W0 (w.heap.size+1+1) 3 #[.int .i64 256]:=by rw [← hW0,← hW3]; exact (Zap w _ _ _ _).alloc _
 have b6:Blk W0 W3.heap.size 123 (msF (w.heap.size+1+1) W3.heap.size):=by rw [← hW0]; exact Blk.new W3 _ _
 have HC:=Lh (ZlP e 0 256 (w.heap.size+1+1) W3.heap.size B W0 (by omega) (by omega) (hi.below (hk.mono hB)) (by omega) (by omega) hqB (hq.below hk hq.lt) b5 b6);rw [show (((0:Nat):Int)+1)=1 from rfl] at HC;generalize ZU 0 256 e=R at *;obtain ⟨x0,x1,x2,x3,hv,-⟩:=ZiW R e;have HV:=Lh hv;unfold Zpb at HC;rw [hv] at HC ⊢;have c6:=b6.cell 0
 simp [msF] at c6
 have HZ:=Lh b5.lt;have HK:=Lh hk;have HB4:=Lh b4;have z1:=b3.lt;have z2:=b4.lt;have z3:=b6.lt;simp only [KE.cells] at b3;simp only [ZaU] at b4;obtain ⟨c0,c1,c2,c3,c4,c5⟩:=b3.c6;simp at c0 c1 c2 c3 c4 c5;obtain ⟨d0,d1,d2,d3⟩:=b4.c4;simp at d0 d1 d2 d3;obtain ⟨f0,f1,f2,f3⟩:=b4.z4
 have hz3:w.heap.size+1+1 < W3.heap.size:=by omega
 clear hi b3 b4 b5 b6 hk hv hs3 hk3;simp only [KE.cells,msF,ZaU] at hW0 hW3 HC ⊢;go_enter Tryz.func44,Tryz.ntmps44
 go_wp2_with first
  | (go_at_call 59; (with_reducible refine HC.out.mono ?_); rintro e3 w3 ⟨hu,z,rfl,-,-⟩
     have h4:=HB4.out.upd hu (by omega);have HU:=Lh (hu.below HZ.out);have H4:=Lh h4;have hs:=hu.size;simp only [ZaU] at h4;obtain ⟨p0,p1,p2,p3⟩:=h4.c4;simp at p0 p1 p2 p3;obtain ⟨q0,q1,q2,q3⟩:=h4.z4
     clear hu h4)
 have x4:=Blk.need H4.out rfl (.bool x0) (.bool x1) (.int .i64 x2) (.int .i64 x3);have y4:=Below.need (HK.out.trans (HU.out.mono (Nat.le_trans (Nat.le_succ _) (Nat.le_succ _)))) (Nat.le_succ _) (.bool x0) (.bool x1) (.int .i64 x2) (.int .i64 x3);exact bodyPost_ret (v:=.agg #[.bool x0,.bool x1,.int .i64 x2,.int .i64 x3]) (results_cell_row rfl _ _ _ _ _ (0,0) _ rfl x4 Tryz.underlying102 rfl ZfK) rfl ⟨rfl,y4⟩
@[go_sem ↓] theorem ZoC (w:World) (a b c d:Value):(Instr.field 102 (.agg #[a,b,c,d]) 2).run Tryz.prog w = .ok c w:=by kernel_rfl
@[go_sem ↓] theorem ZoB (w:World) (a b c d:Value):(Instr.field 102 (.agg #[a,b,c,d]) 3).run Tryz.prog w = .ok d w:=by kernel_rfl
def Zf (e:KE):Nat:=if Zaa e then ZT e else 0
theorem Zqg (e:KE) (B:Nat) (w:World) (hi:e.In w B) (hB:B≤w.heap.size) (hqB:Zae < B) (hq:ZP w):Calls Tryz.prog 19 #[.agg e.cells] w (Zu (.int .i64 (Zf e)) w):=by
 obtain ⟨W0,hW0⟩:∃ W,w.alloc (.cells e.cells 65)=W:=⟨_,rfl⟩
 have hk:Below w.heap.size w W0:=by rw [← hW0]; exact (Below.refl _ _).alloc (Nat.le_refl _) _
 have b3:Blk W0 w.heap.size 65 e.cells:=by rw [← hW0]; exact Blk.new w _ _
 have HC:=Lh (Znz e B W0 (hi.below (hk.mono hB)) (Nat.le_trans hB hk.size) hqB (hq.below hk hq.lt));have HD:Hid (Zf e=if Zaa e then ZT e else 0):=Lh rfl;have hve:Zaa e=(ZU 0 256 e).isSome:=rfl;rw [hve] at HD;generalize ZU 0 256 e=R at *;obtain ⟨x0,x1,x2,x3,hv,h2,h3,-⟩:=ZiW R e;obtain rfl:Zf e=x3:=HD.out.trans h3.symm;rw [hv] at HC;generalize Zf e=D at *;have HK:=Lh hk;simp only [KE.cells] at b3 hW0 HC ⊢;obtain ⟨c0,c1,c2,c3,c4,c5⟩:=b3.c6;simp at c0 c1 c2 c3 c4 c5;have z1:=b3.lt;clear hi b3 hk hv h2 h3 hve;go_enter Tryz.func19,Tryz.ntmps19
 go_wp2_with first
  | (go_at_call 44; (with_reducible refine HC.out.mono ?_); rintro e3 w3 ⟨rfl,hb⟩)
 go_ret;exact ⟨rfl,HK.out.trans (hb.mono HK.out.size)⟩
theorem Zjc {vs:List ZZ} {a:KE} {l:List KE} {q:Nat}:ZaE vs (a :: l) 0 q=Zt vs a q:=by rw [ZaE]
theorem Zp7 {vs:List ZZ} {a b:KE} {l:List KE} {q:Nat}:ZaE vs (a :: b :: l) 1 q=Zt vs b q:=by rw [ZaE,ZaE]
theorem Zj7 {vs:List ZZ} {e:KE} (h:Zq e=true) {q:Nat} (hf:Zt vs e q=true):(∀ x∈e.l,∃ q',Zt vs x q'=true)∧(e.kind=2∨e.kind=3→0≤e.v∧e.v < vs.length):=by
 obtain ⟨k,o,t,n,v,A,c,l⟩:=e
 have hget:∀ x,vs[v.toNat]? = some x→0≤v→v < vs.length:=fun x hx h0=>by
  have:=(List.getElem?_eq_some_iff.1 hx).1
  omega
 unfold Zq at h
 split at h <;> rename_i hk <;> simp only at hk
 ·subst hk;simp only [decide_eq_true_eq] at h;have:l=[]:=List.length_eq_zero_iff.1 h.1;subst this;exact ⟨fun x hx=>(by cases hx),fun h1=>by simp at h1⟩
 ·subst hk;simp only [decide_eq_true_eq] at h;have:l=[]:=List.length_eq_zero_iff.1 h.1;subst this;rw [Zt] at hf
  split at hf
  ·rename_i x hx;exact ⟨fun x hx=>(by cases hx),fun _=>⟨h.2.2.2.2.1,hget x hx h.2.2.2.2.1⟩⟩
  ·cases hf
 ·subst hk;simp only [decide_eq_true_eq] at h;obtain ⟨a,rfl⟩:=List.length_eq_one_iff.1 h.1;rw [Zt] at hf
  split at hf
  ·rename_i x hx;simp only [Bool.and_eq_true,Zjc] at hf;exact ⟨fun y hy=>by simp at hy; subst hy; exact ⟨_,hf.2⟩,fun _=>⟨h.2.2.2.2.1,hget x hx h.2.2.2.2.1⟩⟩
  ·cases hf
 ·subst hk;simp only [decide_eq_true_eq] at h;obtain ⟨a,rfl⟩:=List.length_eq_one_iff.1 h.1;rw [Zt] at hf;simp only [Zjc] at hf;refine ⟨fun y hy=>?_,fun h1=>by simp at h1⟩;simp at hy; subst hy
  split at hf
  ·simp only [Bool.and_eq_true] at hf; exact ⟨_,hf.2⟩
  ·simp only [Bool.and_eq_true] at hf; exact ⟨_,hf.2⟩
 ·subst hk;simp only [decide_eq_true_eq] at h
  obtain ⟨a,b,rfl⟩:∃ a b,l=[a,b]:=by
   match l,h.1 with
   | [a,b],_=>exact ⟨a,b,rfl⟩
  rw [Zt] at hf;simp only [Zjc,Zp7] at hf
  have key:∀ q1 q2,Zt vs a q1=true→Zt vs b q2=true→∀ x∈[a,b],∃ q',Zt vs x q'=true:=fun q1 q2 h1 h2 x hx=>by
   simp at hx
   rcases hx with rfl | rfl
   ·exact ⟨_,h1⟩
   ·exact ⟨_,h2⟩
  refine ⟨?_,fun h1=>by simp at h1⟩
  split at hf
  ·simp only [Bool.and_eq_true] at hf; exact key _ _ hf.2.1 hf.2.2
  ·split at hf
   ·cases hf
   ·split at hf
    ·simp only [Bool.and_eq_true,Bool.or_eq_true] at hf
     rcases hf with (hf | hf) | hf <;> exact key _ _ hf.1 hf.2
    ·split at hf
     ·simp only [Bool.and_eq_true,Bool.or_eq_true] at hf
      rcases hf with hf | hf <;> exact key _ _ hf.1 hf.2
     ·split at hf
      ·simp only [Bool.and_eq_true] at hf; exact key _ _ hf.1 hf.2
      ·simp only [Bool.and_eq_true] at hf; exact key _ _ hf.1 hf.2
  all_goals (intro hh; omega)
 ·subst hk;simp only [decide_eq_true_eq] at h;obtain ⟨a,rfl⟩:=List.length_eq_one_iff.1 h.1;rw [Zt] at hf;simp only [Zjc,Bool.and_eq_true,Bool.or_eq_true] at hf;refine ⟨fun y hy=>?_,fun h1=>by simp at h1⟩;simp at hy; subst hy
  rcases hf.2 with (hf | hf) | hf <;> exact ⟨_,hf⟩
 ·cases h
theorem ZlJ {vs:List ZZ} (e:KE):e.all (fun x=>Zq x=true)→∀ q,Zt vs e q=true→∀ v∈ZaQ e,0≤v∧v < vs.length:=by
 induction e using KE.ind with
 | h e ih =>
   intro ha q hf v hv;rw [KE.all_iff] at ha;obtain ⟨h1,h2⟩:=Zj7 ha.1 hf;rw [ZgR,List.mem_append] at hv
   rcases hv with hv | hv
   ·split at hv
    ·rename_i hk;simp at hv; subst hv; exact h2 hk
    ·cases hv
   ·rw [ZbV,List.mem_flatMap] at hv;obtain ⟨x,hx,hv⟩:=hv;obtain ⟨q',hq⟩:=h1 x hx;exact ih x hx (ha.2 x hx) q' hq v hv
theorem Zeu {vs:List ZZ} {e:KE} {q:Nat} (h:Z6 vs e q=true):∀ v∈ZaQ e,0≤v∧v < vs.length:=by
 unfold Z6 at h;rw [Bool.and_eq_true] at h;exact ZlJ e (Zdq h.1) q h.2
theorem ZeG {vs:List ZZ} {p:KPl} {q:Nat} (h:Zai vs p q=true):(∀ v∈ZcZ p,0≤v∧v < vs.length)∧p.l.length≤1:=by
 unfold Zai at h
 split at h
 ·cases h
 ·rename_i h0
  split at h
  ·cases h
  ·rename_i x hx;have hlt:=(List.getElem?_eq_some_iff.1 hx).1;rw [Bool.and_eq_true] at h
   have hv:0≤p.v∧p.v < vs.length:=by omega
   have hh:=h.2
   split at hh
   ·have hl:p.l=[]:=List.length_eq_zero_iff.1 (of_decide_eq_true hh);refine ⟨fun v hm=>?_,by rw [hl]; simp⟩;unfold ZcZ at hm;rw [hl,ZbK] at hm;simp at hm; subst hm; exact hv
   ·split at hh
    ·rename_i e he;refine ⟨fun v hm=>?_,by rw [he]; simp⟩;unfold ZcZ at hm;rw [he,ZbK,ZbK,List.append_nil] at hm
     rcases List.mem_cons.1 hm with rfl | hm
     ·exact hv
     ·exact Zeu hh v hm
    ·cases hh
theorem ZeM {nc:Nat} {c:Int} {item:Nat} {no:Int} (h:ZS nc c item no=true):0≤c∧c < nc:=by
 unfold ZS at h;simp only [Bool.and_eq_true,decide_eq_true_eq] at h;exact ⟨h.1.1.1,h.1.1.2.1⟩
theorem ZeK {vs:List ZZ} {nc:Nat} {ch:Bool} {g:KG} (h:ZR vs nc ch g=true):(∀ v∈Zgb g,0≤v∧v < vs.length)∧(g.kind=3→0≤g.c∧g.c < nc)∧(ZcO g).length≤2:=by
 unfold ZR at h;simp only [Bool.and_eq_true] at h;obtain ⟨⟨h1,h2⟩,h3⟩:=h;have hc:=Zeu h2
 have simple:g.kind≠3→g.kind≠4→(∀ v∈Zgb g,0≤v∧v < vs.length)∧(g.kind=3→0≤g.c∧g.c < nc)∧(ZcO g).length≤2:=fun a b=>by
  unfold Zgb ZcO;rw [if_neg a,if_neg a,if_neg b,if_neg b,List.append_nil];exact ⟨hc,fun h=>absurd h a,by simp⟩
 split at h3
 ·rename_i hk; exact simple (by omega) (by omega)
 ·rename_i hk; exact simple (by omega) (by omega)
 ·rename_i hk;simp only [Bool.and_eq_true] at h3;have h5:=h3.2;unfold Zbg at h5;rw [Bool.and_eq_true] at h5;have hp:=ZeG h5.2;unfold Zgb ZcO;rw [if_pos hk,if_pos hk];refine ⟨fun v hv=>?_,fun _=>ZeM h5.1,by simp; exact hp.2⟩
  rcases List.mem_append.1 hv with hv | hv
  ·exact hc v hv
  ·exact hp.1 v hv
 ·rename_i hk;simp only [Bool.and_eq_true] at h3;have ht:=Zeu h3.2;unfold Zgb ZcO
  have h3':¬ g.kind=3:=by omega
  rw [if_neg h3',if_neg h3',if_pos hk,if_pos hk];refine ⟨fun v hv=>?_,fun h=>by omega,by simp⟩
  rcases List.mem_append.1 hv with hv | hv
  ·exact hc v hv
  ·exact ht v hv
 ·cases h3
theorem ZgN {vs:List ZZ}:∀ {ts:List KPl} {es:List KE},Zab vs ts es=true→(∀ t∈ts,∃ q,Zai vs t q=true)∧∀ e∈es,∃ q,Z6 vs e q=true
 | [],[],_=>⟨fun _ h=>(by cases h),fun _ h=>(by cases h)⟩
 | t :: ts,[],h=>by simp [Zab] at h
 | [],e :: es,h=>by simp [Zab] at h
 | t :: ts,e :: es,h=>by
   rw [Zab,Bool.and_eq_true] at h;obtain ⟨h1,h2⟩:=h;obtain ⟨i1,i2⟩:=ZgN h2
   split at h1
   ·cases h1
   ·split at h1
    ·cases h1
    ·rw [Bool.and_eq_true] at h1;refine ⟨fun x hx=>?_,fun x hx=>?_⟩
     ·rcases List.mem_cons.1 hx with rfl | hx
      ·exact ⟨_,h1.1⟩
      ·exact i1 x hx
     ·rcases List.mem_cons.1 hx with rfl | hx
      ·exact ⟨_,h1.2⟩
      ·exact i2 x hx
structure Zqs (vs:List ZZ) (nc:Nat) (p:KP):Prop where
 v:p.kind=3→0≤p.v∧p.v < vs.length
 c:p.kind=5∨p.kind=6→0≤p.c∧p.c < nc
 t:∀ t∈p.tos,∃ q,Zai vs t q=true
 e:∀ e∈p.e,∃ q,Z6 vs e q=true
 lt:p.tos.length≤8
 le:p.e.length≤8
 lg:p.g.length≤16
theorem ZhC {α:Type} {l:List α} (h:l.length≤1) {x:α} (hx:x∈l):l[0]? = some x:=by
 match l,h with
 | [y],_=>simp at hx; subst hx; rfl
 | [],_=>cases hx
theorem Zaj {α:Type} {l:List α} (h:l.length≤0) {x:α} (hx:x∈l):False:=by
 rw [List.length_eq_zero_iff.1 (Nat.le_zero.1 h)] at hx; cases hx
theorem ZlR {vs:List ZZ} {nc:Nat} {p:KP} (h:ZW vs nc p=true):Zqs vs nc p:=by
 unfold ZW at h
 split at h <;> rename_i hk
 all_goals first
  | (cases h; done)
  | skip
 all_goals simp only [Za3,Bool.and_eq_true,decide_eq_true_eq] at h
 ·exact ⟨fun h=>by omega,fun h=>by omega,fun x hx=>(Zaj h.1.1.1.2.2 hx).elim,fun x hx=>(Zaj h.1.1.2.2 hx).elim,by omega,by omega,by omega⟩
 ·exact ⟨fun h=>by omega,fun h=>by omega,fun x hx=>(Zaj h.1.1.1.2.2 hx).elim,fun x hx=>(Zaj h.1.1.2.2 hx).elim,by omega,by omega,by omega⟩
 ·exact ⟨fun _=>h.2,fun h=>by omega,fun x hx=>(Zaj h.1.1.1.1.2.2 hx).elim,fun x hx=>(Zaj h.1.1.1.2.2 hx).elim,by omega,by omega,by omega⟩
 ·have ha:=ZgN h.2;exact ⟨fun h=>by omega,fun h=>by omega,ha.1,ha.2,by omega,by omega,by omega⟩
 ·have hi:=h.2;refine ⟨fun h=>by omega,fun _=>?_,fun x hx=>?_,fun x hx=>(Zaj h.1.1.1.2.2 hx).elim,by omega,by omega,by omega⟩
  ·unfold ZdJ at hi
   split at hi
   ·unfold Zbg at hi; rw [Bool.and_eq_true] at hi; exact ZeM hi.1
   ·cases hi
  ·unfold ZdJ at hi;rw [ZhC h.1.1.1.1.2.2 hx] at hi;unfold Zbg at hi;rw [Bool.and_eq_true] at hi;exact ⟨_,hi.2⟩
 ·have hi:=h.2;refine ⟨fun h=>by omega,fun _=>ZeM h.1.2,fun x hx=>(Zaj h.1.1.1.1.1.2.2 hx).elim,fun x hx=>?_,by omega,by omega,by omega⟩;unfold ZbJ at hi;rw [ZhC h.1.1.1.1.2.2 hx] at hi;exact ⟨_,hi⟩
 ·have hi:=h.2;refine ⟨fun h=>by omega,fun h=>by omega,fun x hx=>?_,fun x hx=>(Zaj h.1.1.1.2.2 hx).elim,by omega,by omega,by omega⟩;unfold Zef at hi;rw [ZhC h.1.1.1.1.2.2 hx] at hi;exact ⟨_,hi⟩
 ·have hi:=h.2;refine ⟨fun h=>by omega,fun h=>by omega,fun x hx=>(Zaj h.1.1.1.1.2.2 hx).elim,fun x hx=>?_,by omega,by omega,by omega⟩;unfold ZbJ at hi;rw [ZhC h.1.1.1.2.2 hx] at hi;exact ⟨_,hi⟩
 ·exact ⟨fun h=>by omega,fun h=>by omega,fun x hx=>(Zaj h.1.1.1.2.2 hx).elim,fun x hx=>(Zaj h.1.1.2.2 hx).elim,by omega,by omega,by omega⟩
 ·exact ⟨fun h=>by omega,fun h=>by omega,fun x hx=>(Zaj h.1.1.1.2.2 hx).elim,fun x hx=>(Zaj h.1.1.2.2 hx).elim,by omega,by omega,by omega⟩
 ·exact ⟨fun h=>by omega,fun h=>by omega,fun x hx=>(Zaj h.1.1.1.2.2 hx).elim,fun x hx=>(Zaj h.1.1.2.2 hx).elim,by omega,by omega,by omega⟩
 ·exact ⟨fun h=>by omega,fun h=>by omega,fun x hx=>(Zaj h.1.1.1.1.2.2 hx).elim,fun x hx=>(Zaj h.1.1.1.2.2 hx).elim,by omega,by omega,by omega⟩
 ·have hi:=h.2;refine ⟨fun h=>by omega,fun h=>by omega,fun x hx=>(Zaj h.1.1.1.1.2.2 hx).elim,fun x hx=>?_,by omega,by omega,by omega⟩;unfold ZbJ at hi;rw [ZhC h.1.1.1.2.2 hx] at hi;exact ⟨_,hi⟩
 ·exact ⟨fun h=>by omega,fun h=>by omega,fun x hx=>(Zaj h.1.1.1.1.2.2 hx).elim,fun x hx=>(Zaj h.1.1.1.2.2 hx).elim,by omega,by omega,by omega⟩
 ·exact ⟨fun h=>by omega,fun h=>by omega,fun x hx=>(Zaj h.1.1.1.1.2.2 hx).elim,fun x hx=>(Zaj h.1.1.1.2.2 hx).elim,by omega,by omega,by omega⟩
theorem Zg7 {α β:Type} {f:α→List β} {m:Nat}:∀ {l:List α},(∀ x∈l,(f x).length≤m)→(l.flatMap f).length≤l.length * m
 | [],_=>by simp
 | x :: l,h=>by
   rw [List.flatMap_cons,List.length_append,List.length_cons,Nat.succ_mul];have h1:=h x (by simp);have h2:=Zg7 (f:=f) (m:=m) (l:=l) fun y hy=>h y (by simp [hy])
   omega
theorem ZdR {vs:List ZZ} {nc:Nat} {p:KP} (h:ZW vs nc p=true):(∀ v∈ZbP p,0≤v∧v < vs.length)∧(∀ c∈Zau p,0≤c∧c < nc)∧(ZbM p).length≤48:=by
 have ok:=ZlR h;have hg:=Z3 h;refine ⟨fun v hv=>?_,fun c hc=>?_,?_⟩
 ·unfold ZbP at hv;rw [List.mem_append,List.mem_append,List.mem_append] at hv
  rcases hv with ((hv | hv) | hv) | hv
  ·split at hv
   ·rename_i hk; simp at hv; subst hv; exact ok.v hk
   ·cases hv
  ·obtain ⟨t,ht,hv⟩:=List.mem_flatMap.1 hv;obtain ⟨q,hq⟩:=ok.t t ht;exact (ZeG hq).1 v hv
  ·rw [ZbV] at hv;obtain ⟨t,ht,hv⟩:=List.mem_flatMap.1 hv;obtain ⟨q,hq⟩:=ok.e t ht;exact Zeu hq v hv
  ·obtain ⟨t,ht,hv⟩:=List.mem_flatMap.1 hv;obtain ⟨q,hq⟩:=hg t ht;exact (ZeK hq).1 v hv
 ·unfold Zau at hc;rw [List.mem_append] at hc
  rcases hc with hc | hc
  ·split at hc
   ·rename_i hk; simp at hc; subst hc; exact ok.c hk
   ·cases hc
  ·obtain ⟨t,ht,hc⟩:=List.mem_flatMap.1 hc;obtain ⟨q,hq⟩:=hg t ht
   split at hc
   ·rename_i hk; simp at hc; subst hc; exact (ZeK hq).2.1 hk
   ·cases hc
 ·have h1:(p.tos.flatMap fun t=>t.l).length≤p.tos.length * 1:=Zg7 fun t ht=>by
   obtain ⟨q,hq⟩:=ok.t t ht;exact (ZeG hq).2
  have h2:(p.g.flatMap ZcO).length≤p.g.length * 2:=Zg7 fun t ht=>by
   obtain ⟨q,hq⟩:=hg t ht;exact (ZeK hq).2.2
  have:=ok.lt;have:=ok.le;have:=ok.lg;unfold ZbM;rw [List.length_append,List.length_append]
  omega
theorem Zfm (e:KE):Zf e≤255:=by
 unfold Zf Zaa
 cases hr:ZU 0 256 e with
 | none=>simp
 | some r =>
   have:=Zgn hr
   simp
   omega
theorem Zh8 (l:List KE):Zc2 Zf l≤l.length * 256:=by
 induction l with
 | nil=>simp [Zc2]
 | cons e l ih =>
   have h1:=Zfm e;simp only [Zc2,List.map_cons,List.sum_cons,List.length_cons] at ih ⊢
   omega
theorem Zhc {vs:List ZZ} {nc:Nat} {p:KP} (h:ZW vs nc p=true):Zal Zf p≤12289:=by
 have h1:=Zh8 (ZbM p);have h2:=(ZdR h).2.2;rw [Zey]
 omega
theorem Znp {p:KP} {w:World} {B:Nat} (h:p.In w B):∀ e∈ZbM p,e.In w B:=by
 intro e he;unfold ZbM at he;rw [List.mem_append,List.mem_append] at he;have ho:=h.one
 rcases he with (he | he) | he
 ·obtain ⟨t,ht,he⟩:=List.mem_flatMap.1 he;exact (ho.2.1.2.2 t ht).2.2.2 e he
 ·exact ho.2.2.1.2.2 e he
 ·obtain ⟨g,hg,he⟩:=List.mem_flatMap.1 he;have hg:=ho.2.2.2.1.2 g hg;unfold ZcO at he
  rcases List.mem_append.1 he with he | he
  ·simp at he; subst he; exact hg.2.1
  ·split at he
   ·exact hg.2.2.1.2.2.2 e he
   ·split at he
    ·simp at he; subst he; exact hg.2.2.2.1
    ·cases he
structure Upd (g:Nat) (t:TypeId) (cs:Array Value) (W W':World):Prop where
 bel:Zl W.heap.size (fun k=>k=g) W W'
 blk:Blk W' g t cs
def Zkf (g:Nat) (t:TypeId) (cs:Array Value) (W:World) (e:Ending) (W':World):Prop:=e = .returned (.tuple #[])∧Upd g t cs W W'
theorem Upd.set {W W1:World} {g:Nat} {t:TypeId} {cs:Array Value} (hb:Below W.heap.size W W1) (h:Blk W1 g t cs) (i:Nat) (v:Value) {cs':Array Value} (he:cs.setIfInBounds i v=cs'):Upd g t cs' W (W1.setCell ⟨g,i,none⟩ v):=by
 subst he;have h2:Zl W.heap.size (fun k=>k=g) W1 (W1.setCell ⟨g,i,none⟩ v):=Zl.set (own:=fun k=>k=g) W1 (p:=⟨g,i,none⟩) rfl v;exact ⟨⟨h2.os.trans hb.os,h2.tape.trans hb.tape,h2.output.trans hb.output,Nat.le_trans hb.size h2.size,fun k hk hn=>(h2.block k hk hn).trans (hb.block k hk)⟩,h.set_ i v⟩
theorem Upd.refl {W:World} {g:Nat} {t:TypeId} {cs:Array Value} (h:Blk W g t cs):Upd g t cs W W:=⟨Zl.of (Below.refl _ _),h⟩
def ZaG (l:List Bool):Array Value:=(l.map Value.bool).toArray
def ZV (l:List Int):Array Value:=(ZO l).toArray
theorem Zct (l:List Int) (k:Nat) (v:Int):(ZV l).setIfInBounds k (.int .i64 v)=ZV (l.set k v):=by
 unfold ZV ZO;rw [List.setIfInBounds_toArray,List.map_set]
theorem ZeO (l:List Bool) (k:Nat) (v:Bool):(ZaG l).setIfInBounds k (.bool v)=ZaG (l.set k v):=by
 unfold ZaG;rw [List.setIfInBounds_toArray,List.map_set]
theorem ZaL {l:List Int} {k:Nat} (hk:k < l.length):(ZV l)[k]? = some (.int .i64 (l.getD k (-1))):=by
 unfold ZV ZO;rw [List.getElem?_toArray,List.getElem?_map,List.getElem?_eq_getElem hk,List.getD_eq_getElem?_getD,List.getElem?_eq_getElem hk]
 rfl
theorem Zdy {l:List Bool} {k:Nat} (hk:k < l.length):(ZaG l)[k]? = some (.bool (l.getD k false)):=by
 unfold ZaG;rw [List.getElem?_toArray,List.getElem?_map,List.getElem?_eq_getElem hk,List.getD_eq_getElem?_getD,List.getElem?_eq_getElem hk]
 rfl
theorem ZcW {P:Program} {id:Nat} {Q:Exit→Act→World→Prop} {a:Act} {w:World} {l:List Oper} (F:Unit→World) (hF:∀ i,F i=w.drew) (n:Nat) (hm:P.follows .mixedOrders=true) (hB:Region.lexTailB .any l.toArray n=true)
  (h:wpQuiet P l.toArray (fun w'=>∃ i,w'=F i) (fun a'=>wpList P l.toArray Q (l.drop n) a' w.drew) (l.take n) a):(Code.region id l.toArray true).wp P Q a w:=by
 have e:(fun w'=>∃ i,w'=F i)=(fun w'=>w'=w.drew):=by
  funext w'
  exact propext ⟨fun ⟨i,hi⟩=>hi.trans (hF i),fun h=>⟨(),h.trans (hF ()).symm⟩⟩
 rw [e] at h;exact ZG n hm hB h
theorem Zns:Zbw 39:=enters_of Tryz.func39 (by kernel_rfl) rfl
theorem Zqq (bo go:Nat) (outs:List Bool) (n cap:Nat) (hn:outs.length=n) (c:Int) (h0:0≤c) (h1:c < outs.length) (hl:outs.length≤64) (W:World) (b1:Blk W bo 50 #[.slice (some ⟨go,0,none⟩) n cap]) (b2:Blk W go 4 (ZaG outs)) :
  Calls Tryz.prog 12 #[.int .i64 c,.pointer (some ⟨bo,0,none⟩)] W (Zkf go 4 (ZaG (outs.set c.toNat true)) W):=by
 obtain ⟨k,rfl⟩:∃ k:Nat,c=k:=⟨c.toNat,by omega⟩
 have hk:k < outs.length:=by omega
 have d0:=b2.cell k;rw [Zdy hk] at d0;have f0:=b2.frozen k;have hlt:=b2.lt;have hlt1:=b1.lt;have HB2:=Lh b2;have c0:=b1.cell 0;simp at c0;subst hn;clear b1 b2;go_enter Tryz.func12,Tryz.ntmps12
 go_wp2_with fail
 go_end0
 exact ⟨rfl,Upd.set (Below.refl _ _) HB2.out k _ (by rw [ZeO]; rfl)⟩
theorem Zqo (bo go bs g4:Nat) (outs:List Bool) (m:List Int) (n cap cap4:Nat) (s0 s1 s2 s3:Value) (hn:outs.length=n) (hm:m.length=n) (c:Int) (h0:0≤c) (h1:c < n) (hl:n≤64) (W:World) (b1:Blk W bo 50 #[.slice (some ⟨go,0,none⟩) n cap]) (b2:Blk W go 4 (ZaG outs))
  (b3:Blk W bs 38 #[s0,s1,s2,s3,.slice (some ⟨g4,0,none⟩) n cap4]) (b4:Blk W g4 3 (ZV m)) :
  Calls Tryz.prog 17 #[.int .i64 c,.pointer (some ⟨bo,0,none⟩),.pointer (some ⟨bs,0,none⟩)] W (Zkf g4 3 (ZV (Zcd outs m c)) W):=by
 obtain ⟨k,rfl⟩:∃ k:Nat,c=k:=⟨c.toNat,by omega⟩
 have hk:k < n:=by omega
 have d0:=b2.cell k;rw [Zdy (by omega)] at d0;have d4:=b4.cell k;rw [ZaL (by omega)] at d4;have f4:=b4.frozen k;have hlt:=b2.lt;have hlt1:=b1.lt;have hlt3:=b3.lt;have hlt4:=b4.lt;have HB4:=Lh b4;have e4:=b3.cell 4;have f3:=b3.frozen 4;simp at e4;have c0:=b1.cell 0;simp at c0;have HQ:Hid (Zcd outs m (k:Int)=if outs.getD k false then m else m.set k 0):=Lh (by unfold Zcd; rw [Int.toNat_natCast]);generalize Zcd outs m (k:Int)=R at *;generalize outs.getD k false=q at *;clear b1 b2 b3 b4 hn hm;go_enter Tryz.func17,Tryz.ntmps17
 cases q
 ·go_wp2_with fail
  go_end0
  exact ⟨rfl,Upd.set (Below.refl _ _) HB4.out k _ (by rw [Zct,HQ.out]; rfl)⟩
 ·go_wp2_with fail
  go_end0
  exact ⟨rfl,Upd.refl (by rw [HQ.out]; exact HB4.out)⟩
theorem Zqp (S0 bw bp bs bf g2:Nat) (T:List (KP×Nat)→Nat→Nat) (s:PlS) (m:List Int) (n cap2:Nat) (s0 s1 s3 s4:Value) (hm:m.length=n) (hx:∀ x∈m,-1≤x∧x < s.pl.par.length) (v:Int) (h0:0≤v) (h1:v < n) (hn:n≤256) (f:Nat) (hf:f < s.pl.par.length) (ht:Zak s.pl) (hl:s.pl.par.length≤1000000) (W:World) (hp:ZH S0 bw T s W)
  (b1:Blk W bp 54 #[.pointer (some ⟨bw,0,none⟩)]) (b3:Blk W bs 38 #[s0,s1,.slice (some ⟨g2,0,none⟩) n cap2,s3,s4]) (b4:Blk W g2 3 (ZV m)) (b5:Blk W bf 3 #[.int .i64 f]) :
  Calls Tryz.prog 15 #[.int .i64 v,.pointer (some ⟨bp,0,none⟩),.pointer (some ⟨bs,0,none⟩),.pointer (some ⟨bf,0,none⟩)] W (Zkf g2 3 (ZV (ZcS s.pl.par f m v)) W):=by
 obtain ⟨k,rfl⟩:∃ k:Nat,v=k:=⟨v.toNat,by omega⟩
 have hk:k < n:=by omega
 have d4:=b4.cell k;rw [ZaL (by omega)] at d4
 have hxk:-1≤m.getD k (-1)∧m.getD k (-1) < s.pl.par.length:=by
  rw [List.getD_eq_getElem?_getD,List.getElem?_eq_getElem (by omega)];exact hx _ (List.getElem_mem _)
 have HC:=Lh (sMeet S0 bw T s (m.getD k (-1)) f ht hxk.1 hxk.2 (by omega) (by omega) hl W.drew (hp.call (Below.refl _ _).drew));have f4:=b4.frozen k;have hlt1:=b1.lt;have hlt3:=b3.lt;have hlt4:=b4.lt;have hlt5:=b5.lt;have HB4:=Lh b4;have e2:=b3.cell 2;simp at e2;have c0:=b1.cell 0;simp at c0;have d0:=b5.cell 0;simp at d0;have HQ:Hid (ZcS s.pl.par f m (k:Int)=m.set k (Zay s.pl.par (m.getD k (-1)) f)):=Lh (by unfold ZcS; rw [Int.toNat_natCast]);generalize ZcS s.pl.par f m (k:Int)=R at *;generalize Zay s.pl.par (m.getD k (-1)) f=q at *;generalize m.getD k (-1)=mk at *;clear b1 b3 b4 b5 hm hx hp ht hxk hf
 obtain ⟨F,hF⟩:∃ F:Unit→World,∀ i,F i=W.drew:=⟨fun _=>W.drew,fun _=>rfl⟩
 have Fd4:∀ i,(F i).cell? ⟨g2,k,none⟩=some (.int .i64 mk):=fun i=>by rw [hF]; exact d4
 have Fe2:∀ i,(F i).cell? ⟨bs,2,none⟩=some (.slice (some ⟨g2,0,none⟩) n cap2):=fun i=>by rw [hF]; exact e2
 have Fc0:∀ i,(F i).cell? ⟨bp,0,none⟩=some (.pointer (some ⟨bw,0,none⟩)):=fun i=>by rw [hF]; exact c0
 have Fd0:∀ i,(F i).cell? ⟨bf,0,none⟩=some (.int .i64 f):=fun i=>by rw [hF]; exact d0
 have HCF:Hid (∀ i,Calls Tryz.prog 16 #[.pointer (some ⟨bw,0,none⟩),.int .i64 mk,.int .i64 f] (F i) (fun e W'=>e = .returned (.int .i64 q)∧W'=F i)):=Lh fun i=>by rw [hF]; exact HC.out
 go_enter Tryz.func15,Tryz.ntmps15;refine ZcW F hF 11 (by kernel_rfl) (by kernel_rfl) ?_;clear hF;simp only [List.take_succ_cons,List.take_zero,List.drop_succ_cons,List.drop_zero]
 repeat (go_big_quiet_step (first
  | (go_at_call 16; refine (HCF.out _).mono ?_; rintro e w1 ⟨rfl,rfl⟩; exact ⟨rfl,_,rfl⟩)))
 refine wpQuiet_nil ?_
 go_wp2_with fail
 go_end0
 exact ⟨rfl,Upd.set (Below.refl _ _).drew HB4.out.drew k _ (by rw [Zct,HQ.out])⟩
theorem Zqn (bn:Nat) (x:Int) (e:KE) (B:Nat) (W:World) (hi:e.In W B) (hB:B≤W.heap.size) (hqB:Zae < B) (hq:ZP W) (hx:0≤x∧x≤1000000) (b1:Blk W bn 3 #[.int .i64 x]) :
  Calls Tryz.prog 18 #[.agg e.cells,.pointer (some ⟨bn,0,none⟩)] W (Zkf bn 3 #[.int .i64 (x+(1+Zf e))] W):=by
 obtain ⟨W0,hW0⟩:∃ W0,W.alloc (.cells e.cells 65)=W0:=⟨_,rfl⟩
 have K0:Hid (Below W.heap.size W W0):=Lh (by rw [← hW0]; exact (Below.refl _ _).alloc (Nat.le_refl _) _)
 have b0:Blk W0 W.heap.size 65 e.cells:=by rw [← hW0]; exact Blk.new _ _ _
 have b2:Blk W0 bn 3 #[.int .i64 x]:=b1.call K0.out;have HC:=Lh (Zqg e B W0.drew ((hi.below (K0.out.mono hB)).below (Below.refl _ _).drew) (Nat.le_trans hB K0.out.size) hqB (hq.below (K0.out.drew) hq.lt));have ht:=Zfm e;generalize Zf e=tv at *;have hlt:=b2.lt;have hlt0:=b0.lt;have HB2:=Lh b2;have HB0:=Lh b0;simp only [KE.cells] at b0 hW0 HC HB0 ⊢;obtain ⟨e0,e1,e2,e3,e4,e5⟩:=b0.c6;simp at e0 e1 e2 e3 e4 e5;have c0:=b2.cell 0;simp at c0;have f0:=b2.frozen 0;clear b0 b1 b2 hi hq;go_enter Tryz.func18,Tryz.ntmps18
 go_upto_region 1 with fail
 clear hW0
 go_region_with (first
  | (go_at_call 19; (with_reducible refine HC.out.mono ?_); rintro e1 w2 ⟨rfl,K2⟩
     have B2:=HB2.out.drew.call K2;have E2:=HB0.out.drew.call K2;have d0:=B2.cell 0;simp at d0;have g0:=B2.frozen 0;obtain ⟨q0,q1,q2,q3,q4,q5⟩:=E2.c6;simp at q0 q1 q2 q3 q4 q5;have hlt2:=B2.lt;have HB5:=Lh B2;have HK2:=Lh K2
     clear B2 E2 K2))
 all_goals
  go_wp2
  go_end0
  exact ⟨rfl,Upd.set ((K0.out.drew).trans (HK2.out.mono K0.out.size)) HB5.out 0 _ (by
   have hw:IntKind.i64.wrap (x+IntKind.i64.wrap (1+(tv:Int)))=x+(1+(tv:Int)):=by rw [IntKind.wrap_i64,IntKind.wrap_i64]; omega
   simp [hw])⟩
theorem Zlf {w:Zr} (h:Zak w) {par:List Int} (hp:w.par <+: par) {a b:Int} (ha2:a < w.par.length) (hb:0≤b) (hb2:b < w.par.length):Zay par a b=Zay w.par a b:=by
 unfold Zay
 by_cases h0:a < 0
 ·rw [if_pos h0,if_pos h0]
 ·rw [if_neg h0,if_neg h0];have hl:=ZI hp;rw [Zm5 h hp (2 * par.length+2) a b (by omega) ha2 hb hb2 (by omega)];exact (Zdv h (2 * par.length+2) a b (by omega) ha2 hb hb2 (by omega) (2 * w.par.length+2) (by omega)).1
def InR (n:Nat) (m:List Int):Prop:=∀ x∈m,-1≤x∧x < n
theorem InR.getD {n:Nat} {m:List Int} (h:InR n m) (k:Nat):-1≤m.getD k (-1)∧m.getD k (-1) < n:=by
 rw [List.getD_eq_getElem?_getD]
 cases hx:m[k]? with
 | none=>simp; omega
 | some x=>exact h x (List.mem_of_getElem? hx)
theorem InR.rep (n k:Nat):InR n (List.replicate k (-1)):=fun x hx=>by
 rw [List.eq_of_mem_replicate hx]; omega
theorem InR.more {n n':Nat} {m:List Int} (h:InR n m) (hn:n≤n'):InR n' m:=fun x hx=>⟨(h x hx).1,by have:=(h x hx).2; omega⟩
theorem Zhm {w:Zr} (h:Zak w) {par:List Int} (hp:w.par <+: par) {f:Nat} (hf:f < w.par.length) {m:List Int} (hm:InR w.par.length m) (v:Int):ZcS par f m v=ZcS w.par f m v∧InR w.par.length (ZcS w.par f m v):=by
 have hg:=hm.getD v.toNat;refine ⟨by unfold ZcS; rw [Zlf h hp hg.2 (by omega) (by omega)],fun x hx=>?_⟩;unfold ZcS at hx
 rcases List.mem_or_eq_of_mem_set hx with hx | rfl
 ·exact hm x hx
 ·have:=ZdX h hg.1 hg.2 (b:=(f:Int)) (by omega) (by omega);exact ⟨by omega,this.2.2⟩
theorem ZfT {w:Zr} (h:Zak w) {par:List Int} (hp:w.par <+: par) {f:Nat} (hf:f < w.par.length):∀ (vs m:List Int),InR w.par.length m→vs.foldl (ZcS par f) m=vs.foldl (ZcS w.par f) m∧InR w.par.length (vs.foldl (ZcS par f) m)
 | [],m,hm=>⟨rfl,hm⟩
 | v :: vs,m,hm=>by
   obtain ⟨h1,h2⟩:=Zhm h hp hf hm v;rw [List.foldl_cons,List.foldl_cons,h1];exact ZfT h hp hf vs _ h2
theorem ZeA {w:Zr} (h:Zak w) {par:List Int} (hp:w.par <+: par):∀ (us:List (KP×Nat)) (m:List Int),(∀ u∈us,u.2 < w.par.length)→InR w.par.length m→InR w.par.length (Zhh par us m)
 | [],m,_,hm=>hm
 | u :: us,m,hu,hm=>ZeA h hp us _ (fun x hx=>hu x (by simp [hx])) (ZfT h hp (hu u (by simp)) (ZbP u.1) m hm).2
theorem Zky (outs:List Bool) (m:List Int) (c:Int):(Zcd outs m c).length=m.length:=by
 unfold Zcd
 split
 ·rfl
 ·exact List.length_set
theorem ZfU (outs:List Bool):∀ (cs m:List Int),(cs.foldl (Zcd outs) m).length=m.length
 | [],m=>rfl
 | c :: cs,m=>by rw [List.foldl_cons,ZfU outs cs,Zky]
theorem ZfZ (outs:List Bool):∀ (us:List (KP×Nat)) (m:List Int),(Zcv outs us m).length=m.length
 | [],m=>rfl
 | u :: us,m=>by
   show (Zcv outs us _).length=_
   rw [ZfZ outs us,ZfU]
theorem ZlI (par:List Int) (f:Int) (vs m:List Int):(vs.foldl (ZcS par f) m).length=m.length:=Zfp par f vs m
theorem Zl.imp {B:Nat} {own own':Nat→Prop} {a w:World} (h:Zl B own a w) (hi:∀ k,own k→own' k):Zl B own' a w:=⟨h.os,h.tape,h.output,h.size,fun k hk ho=>h.block k hk fun h'=>ho (hi k h')⟩
theorem Zl.put {B:Nat} {own:Nat→Prop} (a:World) {b:Nat} (hp:own b) (o:Obj):Zl B own a (a.putObj b o) :=
 ⟨rfl,rfl,rfl,by simp [World.putObj],fun k _ ho=>World.putObj_heap_other (by rintro rfl; exact ho hp)⟩
def ZqK {β:Type} (own:Nat→Prop) (J:β→World→Prop):Prop :=
 ∀ s W W',J s W→Zl W.heap.size own W W'→J s W'
def Zqt {α:Type} (F:Fence) (n:Nat) (P:Program) (gf:Nat) (lb:Array Value) (encs:α→Array Value) (X own:Nat→Prop) (xs:List α) (w:World):Prop :=
 ∀ (l:Nat) (J Jx:List α→World→Prop) (W:World),Below w.heap.size w W→ZqK own J→ZqK own Jx →
  (∀ pre x r W1,J pre W1→xs=pre++x :: r→YieldAt F (n - 1) P l (encs x) W1 fun e W'=>(e = .returned (.bool true)∧J (pre++[x]) W'∧Z0 X W1 W')∨(e = .returned (.bool false)∧Jx (pre++[x]) W')) →
  J [] W→CallsIn F n P gf (#[.func (.yield l) #[] #[]]++lb) W fun e W'=>(∃ v,e = .returned v)∧(J xs W'∨∃ pre x r,xs=pre++x :: r∧Jx (pre++[x]) W')
section
theorem ZH.keepE {S0 bw:Nat} {T:List (KP×Nat)→Nat→Nat} {s:PlS} {W W':World} {X:Nat→Prop} (h:ZH S0 bw T s W) (hb:Zl W.heap.size X W W') (hx:∀ k,X k→k≠bw∧¬ ZcT s k):ZH S0 bw T s W':=by
 have hrow:∀ {base e size n:Nat} {v:Value} {xs:List Value},W.ownsRow base e size v n xs→(∀ k,v.ownBlock=some k→ZcT s k)→W'.ownsRow base e size v n xs:=fun hv hr=>Zp hv fun k hk=>hb.block k (hv.lt k hk).2 fun hX=>(hx k hX).2 (hr k hk);refine ⟨h.lo,Nat.le_trans h.hi hb.size,(hb.block bw h.blk.lt fun hX=>(hx bw hX).1 rfl).trans h.blk,hrow h.fr fun k hk=>.inl hk,hrow h.tm fun k hk=>.inr (.inl hk),⟨hrow h.gp.1 fun k hk=>.inr (.inr (.inl hk)),h.gp.2.1,fun i g hgi=>?_⟩,h.fl⟩;obtain ⟨v,q1,q2,q3⟩:=h.gp.2.2 i g hgi;exact ⟨v,q1,hrow q2 fun k hk=>.inr (.inr (.inr ⟨v,List.mem_of_getElem? q1,hk⟩)),q3⟩
theorem Zl.trans {B:Nat} {X:Nat→Prop} {a b c:World} (h:Zl B X a b) (k:Zl B X b c):Zl B X a c :=
 ⟨k.os.trans h.os,k.tape.trans h.tape,k.output.trans h.output,Nat.le_trans h.size k.size,fun i hi hx=>(k.block i hi hx).trans (h.block i hi hx)⟩
theorem Zl.below {B C:Nat} {X:Nat→Prop} {a b:World} (h:Zl B X a b) (hc:C≤B) (hx:∀ k,X k→C≤k):Below C a b :=
 ⟨h.os,h.tape,h.output,h.size,fun k hk=>h.block k (by omega) fun hX=>by have:=hx k hX; omega⟩
theorem Zl.blk {B:Nat} {X:Nat→Prop} {a b:World} {g:Nat} {t:TypeId} {cs:Array Value} (h:Zl B X a b) (hb:Blk a g t cs) (hg:g < B) (hx:¬ X g):Blk b g t cs:=(h.block g hg hx).trans hb
structure ZhZ (p:KP) (vs:List ZZ) (nc B S0 bw bp bo go bs g2 g4 nb bf f:Nat) (T:List (KP×Nat)→Nat→Nat) (s:PlS) (par:List Int) (outs:List Bool) (m0 c0:List Int) (s0 s1 s3:Value) (cp2 cp4 cpo:Nat) (W:World):Prop where
 hin:p.In W B
 hB:B≤W.heap.size
 hq:ZP W
 hqB:Zae < B
 hok:ZW vs nc p=true
 hpl:ZH S0 bw T s W
 ht:Zak s.pl
 hf:f < s.pl.par.length
 hl:s.pl.par.length≤1000000
 hpar:s.pl.par <+: par
 xbp:Blk W bp 54 #[.pointer (some ⟨bw,0,none⟩)]
 xbo:Blk W bo 50 #[.slice (some ⟨go,0,none⟩) nc cpo]
 xbg:Blk W go 4 (ZaG outs)
 xbs:Blk W bs 38 #[s0,s1,.slice (some ⟨g2,0,none⟩) vs.length cp2,s3,.slice (some ⟨g4,0,none⟩) nc cp4]
 xb2:Blk W g2 3 (ZV m0)
 xb4:Blk W g4 3 (ZV c0)
 xbn:Blk W nb 3 #[.int .i64 1]
 xbf:Blk W bf 3 #[.int .i64 f]
 ho:outs.length=nc
 hm:m0.length=vs.length
 hc:c0.length=nc
 hr:InR s.pl.par.length m0
 hv:vs.length≤256
 hn:nc≤64
 d1:B≤g2∧B≤g4∧B≤nb
 d2:g2≠g4∧g2≠nb∧g4≠nb∧bf≠g2∧bf≠g4∧bf≠nb
 d3:∀ k,k=g2∨k=g4∨k=nb→k≠bw∧¬ ZcT s k
structure Zf7 (g2 g4 nb f:Nat) (par:List Int) (outs:List Bool) (m0 c0:List Int) (W1:World) (evs:List Ev) (W:World):Prop where
 bel:Zl W1.heap.size (fun k=>k=g2∨k=g4∨k=nb) W1 W
 b2:Blk W g2 3 (ZV ((ZeS evs).foldl (ZcS par f) m0))
 b4:Blk W g4 3 (ZV ((ZeN evs).foldl (Zcd outs) c0))
 bn:Blk W nb 3 #[.int .i64 ((1+Zc2 Zf (ZdE evs):Nat):Int)]
theorem Zkn (l:List Ev) (v:Int):ZeS (l++[.va v])=ZeS l++[v]:=by rw [ZaX]; rfl
theorem Zmj (l:List Ev) (v:Int):ZeS (l++[.ch v])=ZeS l:=by rw [ZaX]; exact List.append_nil _
theorem Zmi (l:List Ev) (v:KE):ZeS (l++[.ex v])=ZeS l:=by rw [ZaX]; exact List.append_nil _
theorem ZhU (l:List Ev) (v:Int):ZeN (l++[.ch v])=ZeN l++[v]:=by rw [ZaY]; rfl
theorem Zjk (l:List Ev) (v:Int):ZeN (l++[.va v])=ZeN l:=by rw [ZaY]; exact List.append_nil _
theorem Zjl (l:List Ev) (v:KE):ZeN (l++[.ex v])=ZeN l:=by rw [ZaY]; exact List.append_nil _
theorem ZlK (l:List Ev) (v:KE):ZdE (l++[.ex v])=ZdE l++[v]:=by rw [ZaK]; rfl
theorem Znq (l:List Ev) (v:Int):ZdE (l++[.va v])=ZdE l:=by rw [ZaK]; exact List.append_nil _
theorem Znr (l:List Ev) (v:Int):ZdE (l++[.ch v])=ZdE l:=by rw [ZaK]; exact List.append_nil _
theorem Zjd {xs pre r:List Ev} {x:Ev} (h:xs=pre++x :: r):x∈xs:=by rw [h]; simp
theorem Zpo {xs:List Ev} {v:Int} (h:Ev.va v∈xs):v∈ZeS xs:=by unfold ZeS; rw [List.mem_filterMap]; exact ⟨_,h,rfl⟩
theorem Zn2 {xs:List Ev} {v:Int} (h:Ev.ch v∈xs):v∈ZeN xs:=by unfold ZeN; rw [List.mem_filterMap]; exact ⟨_,h,rfl⟩
theorem Zp9 {xs:List Ev} {v:KE} (h:Ev.ex v∈xs):v∈ZdE xs:=by unfold ZdE; rw [List.mem_filterMap]; exact ⟨_,h,rfl⟩
theorem Zp8 {xs pre r:List Ev} (h:xs=pre++r):Zc2 Zf (ZdE pre)≤Zc2 Zf (ZdE xs):=by
 rw [h,ZaK,Zah]; omega
theorem Upd.keep {g S:Nat} {t:TypeId} {cs:Array Value} {W W':World} (h:Upd g t cs W W') (hg:g < S):Z0 (fun k=>k < S) W W' :=
 ⟨h.bel.size,fun k c t f hn hk=>(h.bel.block k (Array.getElem?_eq_some_iff.1 hk).1 fun e=>by omega).trans hk⟩
theorem Znv:Zbw 15:=enters_of Tryz.func15 (by kernel_rfl) rfl
theorem Znu:Zbw 17:=enters_of Tryz.func17 (by kernel_rfl) rfl
theorem Znt:Zbw 18:=enters_of Tryz.func18 (by kernel_rfl) rfl
section
variable {p:KP} {vs:List ZZ} {nc B S0 bw bp bo go bs g2 g4 nb bf f:Nat} {T:List (KP×Nat)→Nat→Nat} {s:PlS} {par:List Int} {outs:List Bool} {m0 c0:List Int} {s0 s1 s3:Value} {cp2 cp4 cpo:Nat} {W1:World}
theorem Zf7.start (h:ZhZ p vs nc B S0 bw bp bo go bs g2 g4 nb bf f T s par outs m0 c0 s0 s1 s3 cp2 cp4 cpo W1):Zf7 g2 g4 nb f par outs m0 c0 W1 [] W1 :=
 ⟨Zl.of (Below.refl _ _),h.xb2,h.xb4,h.xbn⟩
theorem Zf7.far {evs:List Ev} {W:World} (h:ZhZ p vs nc B S0 bw bp bo go bs g2 g4 nb bf f T s par outs m0 c0 s0 s1 s3 cp2 cp4 cpo W1) (hi:Zf7 g2 g4 nb f par outs m0 c0 W1 evs W):Below B W1 W :=
 hi.bel.below h.hB fun k hk=>by have:=h.d1; rcases hk with rfl | rfl | rfl <;> omega
def Zo6 (bp bo bs nb bf:Nat):UsL:=⟨15,#[.pointer (some ⟨bp,0,none⟩),.pointer (some ⟨bs,0,none⟩),.pointer (some ⟨bf,0,none⟩)],17,#[.pointer (some ⟨bo,0,none⟩),.pointer (some ⟨bs,0,none⟩)],18,#[.pointer (some ⟨nb,0,none⟩)]⟩
theorem ZnE (h:ZhZ p vs nc B S0 bw bp bo go bs g2 g4 nb bf f T s par outs m0 c0 s0 s1 s3 cp2 cp4 cpo W1) :
  ZdK (Zo6 bp bo bs nb bf) (fun W=>Zl W1.heap.size (fun k=>k=g2∨k=g4∨k=nb) W1 W) W1.heap.size (Zf7 g2 g4 nb f par outs m0 c0 W1) (evP p):=by
 have hu:=ZdR h.hok;have hlt2:=h.xb2.lt;have hlt4:=h.xb4.lt;have hltn:=h.xbn.lt;have hne:=h.d2
 have stay:∀ {W:World} {g:Nat} {t:TypeId} {cs:Array Value},Zl W1.heap.size (fun k=>k=g2∨k=g4∨k=nb) W1 W→Blk W1 g t cs→(g≠g2∧g≠g4∧g≠nb)→Blk W g t cs:=fun hb hg hn=>hb.blk hg hg.lt fun hX=>by rcases hX with e | e | e <;> simp [e] at hn
 have ne4:∀ {g:Nat} {t:TypeId} {cs:Array Value},Blk W1 g t cs→t≠3→g≠g2∧g≠g4∧g≠nb:=fun hb ht=>⟨hb.ne_ h.xb2 ht,hb.ne_ h.xb4 ht,hb.ne_ h.xbn ht⟩
 have nbp:=ne4 h.xbp (by decide);have nbo:=ne4 h.xbo (by decide);have nbg:=ne4 h.xbg (by decide);have nbs:=ne4 h.xbs (by decide)
 have upd:∀ {g:Nat} {cs:Array Value} {W W':World},(g=g2∨g=g4∨g=nb)→Zl W1.heap.size (fun k=>k=g2∨k=g4∨k=nb) W1 W→Upd g 3 cs W W'→Zl W1.heap.size (fun k=>k=g2∨k=g4∨k=nb) W1 W':=fun hg hb hU =>
  hb.trans ((hU.bel.mono hb.size).imp fun k hk=>hk ▸ hg)
 have oth:∀ {g g':Nat} {cs cs':Array Value} {t':TypeId} {W W':World},Upd g 3 cs W W'→Blk W g' t' cs'→g'≠g→Blk W' g' t' cs':=fun hU hb hn=>hU.bel.blk hb hb.lt hn;refine ⟨Znv,Znu,Znt,?_,?_,?_,?_,?_⟩
 ·intro pre a b hi hb;exact ⟨hi.bel.trans (Zl.of hb),hi.b2.below hb hlt2,hi.b4.below hb hlt4,hi.bn.below hb hltn⟩
 ·intro pre W hi;exact ⟨hi.bel,hi.bel.size⟩
 ·intro pre v r W hi hxs;have hv:=hu.1 v (by rw [← ZnZ]; exact Zpo (Zjd hxs));have hfold:=ZfT h.ht h.hpar h.hf (ZeS pre) m0 h.hr;have hst:=Zhm h.ht h.hpar h.hf hfold.2 v;have hpl:ZH S0 bw T s W:=h.hpl.keepE hi.bel h.d3;refine (Zqp S0 bw bp bs bf g2 T s _ vs.length cp2 s0 s1 s3 (.slice (some ⟨g4,0,none⟩) nc cp4) (by rw [ZlI]; exact h.hm) hfold.2 v hv.1 hv.2 h.hv f h.hf h.ht h.hl W hpl (stay hi.bel h.xbp nbp) (stay hi.bel h.xbs nbs) hi.b2 (stay hi.bel h.xbf ⟨hne.2.2.2.1,hne.2.2.2.2.1,hne.2.2.2.2.2⟩)).mono ?_;rintro e W' ⟨rfl,hU⟩;refine ⟨rfl,⟨upd (.inl rfl) hi.bel hU,?_,?_,?_⟩,hU.keep hlt2⟩
  ·rw [Zkn,List.foldl_append,List.foldl_cons,List.foldl_nil,hst.1];exact hU.blk
  ·rw [Zjk]; exact oth hU hi.b4 (Ne.symm hne.1)
  ·rw [Znq]; exact oth hU hi.bn (Ne.symm hne.2.1)
 ·intro pre c r W hi hxs;have hv:=hu.2.1 c (by rw [← Zje]; exact Zn2 (Zjd hxs));refine (Zqo bo go bs g4 outs _ nc cpo cp4 s0 s1 (.slice (some ⟨g2,0,none⟩) vs.length cp2) s3 h.ho (by rw [ZfU]; exact h.hc) c hv.1 hv.2 h.hn W (stay hi.bel h.xbo nbo) (stay hi.bel h.xbg nbg) (stay hi.bel h.xbs nbs) hi.b4).mono ?_;rintro e W' ⟨rfl,hU⟩;refine ⟨rfl,⟨upd (.inr (.inl rfl)) hi.bel hU,?_,?_,?_⟩,hU.keep hlt4⟩
  ·rw [Zmj]; exact oth hU hi.b2 hne.1
  ·rw [ZhU,List.foldl_append,List.foldl_cons,List.foldl_nil];exact hU.blk
  ·rw [Znr]; exact oth hU hi.bn (Ne.symm hne.2.2.1)
 ·intro pre x r W hi hxs;have hx:=Znp h.hin x (by rw [← ZlO]; exact Zp9 (Zjd hxs));have hfar:=hi.far h
  have hsum:Zc2 Zf (ZdE pre)≤12288:=by
   have h1:=Zp8 hxs;rw [ZlO] at h1;have h2:=Zh8 (ZbM p);have h3:=hu.2.2
   omega
  refine (Zqn nb _ x B W (hx.below hfar) (Nat.le_trans h.hB hi.bel.size) h.hqB (h.hq.below hfar h.hqB) (by omega) hi.bn).mono ?_;rintro e W' ⟨rfl,hU⟩;refine ⟨rfl,⟨upd (.inr (.inr rfl)) hi.bel hU,?_,?_,?_⟩,hU.keep hltn⟩
  ·rw [Zmi]; exact oth hU hi.b2 hne.2.1
  ·rw [Zjl]; exact oth hU hi.b4 hne.2.2.1
  ·rw [ZlK,Zah]
   have:Zc2 Zf [x]=1+Zf x:=by simp [Zc2]
   rw [this];have h3:=hU.blk
   have h4:((1+(Zc2 Zf (ZdE pre)+(1+Zf x)):Nat):Int)=((1+Zc2 Zf (ZdE pre):Nat):Int)+(1+(Zf x:Int)):=by omega
   rw [h4];exact h3
end
end
def ZfG (cs:List Int) (o:List Bool):List Bool:=cs.foldl (fun o c=>o.set c.toNat true) o
def ZdC (us:List (KP×Nat)) (o:List Bool):List Bool:=us.foldl (fun o u=>ZfG (Zau u.1) o) o
theorem ZjM (us:List (KP×Nat)) (u:KP×Nat) (o:List Bool):ZdC (us++[u]) o=ZfG (Zau u.1) (ZdC us o):=by simp [ZdC]
theorem Zeg:∀ (cs:List Int) (o:List Bool),(ZfG cs o).length=o.length
 | [],o=>rfl
 | c :: cs,o=>by
   show (ZfG cs _).length=_
   rw [Zeg cs,List.length_set]
theorem ZfF:∀ (us:List (KP×Nat)) (o:List Bool),(ZdC us o).length=o.length
 | [],o=>rfl
 | u :: us,o=>by
   show (ZdC us _).length=_
   rw [ZfF us,Zeg]
theorem cNo1 (v:Int) (W:World):Calls Tryz.prog 39 #[.int .i64 v] W (fun e W'=>e = .returned (.tuple #[])∧W'=W):=by
 go_enter Tryz.func39,Tryz.ntmps39
 go_wp2
 go_end0
 exact ⟨rfl,rfl⟩
theorem cNo2 (e:KE) (W:World):Calls Tryz.prog 40 #[.agg e.cells] W (fun e' W'=>e' = .returned (.tuple #[])∧W'=W.alloc (.cells e.cells 65)):=by
 obtain ⟨W0,hW0⟩:∃ W0,W.alloc (.cells e.cells 65)=W0:=⟨_,rfl⟩
 rw [hW0];simp only [KE.cells] at hW0 ⊢;go_enter Tryz.func40,Tryz.ntmps40
 go_wp2
 go_end0
 exact ⟨rfl,by first | trivial | rfl⟩
theorem Znx:Zbw 40:=enters_of Tryz.func40 (by kernel_rfl) rfl
theorem Znw:Zbw 12:=enters_of Tryz.func12 (by kernel_rfl) rfl
def Zeq (bo:Nat):UsL:=⟨39,#[],12,#[.pointer (some ⟨bo,0,none⟩)],40,#[]⟩
structure ChanI (go:Nat) (o0:List Bool) (W1:World) (evs:List Ev) (W:World):Prop where
 bel:Zl W1.heap.size (fun k=>k=go) W1 W
 bg:Blk W go 4 (ZaG (ZfG (ZeN evs) o0))
theorem ZnA (p:KP) (vs:List ZZ) (nc bo go cpo:Nat) (o0:List Bool) (W1:World) (hok:ZW vs nc p=true) (hn:nc≤64) (ho:o0.length=nc) (b1:Blk W1 bo 50 #[.slice (some ⟨go,0,none⟩) nc cpo]) (b2:Blk W1 go 4 (ZaG o0)) :
  ZdK (Zeq bo) (fun W=>Zl W1.heap.size (fun k=>k=go) W1 W) W1.heap.size (ChanI go o0 W1) (evP p):=by
 have hu:=ZdR hok;have hlt:=b2.lt;have hne:bo≠go:=b1.ne_ b2 (by decide);refine ⟨Zns,Znw,Znx,?_,?_,?_,?_,?_⟩
 ·intro pre a b hi hb;exact ⟨hi.bel.trans (Zl.of hb),hi.bg.below hb hlt⟩
 ·intro pre W hi;exact ⟨hi.bel,hi.bel.size⟩
 ·intro pre v r W hi hxs;refine (cNo1 v W).mono ?_;rintro e W' ⟨rfl,rfl⟩;exact ⟨rfl,⟨hi.bel,by rw [Zjk]; exact hi.bg⟩,Z0.refl _ _⟩
 ·intro pre c r W hi hxs;have hv:=hu.2.1 c (by rw [← Zje]; exact Zn2 (Zjd hxs))
  have hl:(ZfG (ZeN pre) o0).length=nc:=by rw [Zeg]; exact ho
  refine (Zqq bo go _ nc cpo hl c hv.1 (by rw [hl]; exact hv.2) (by rw [hl]; exact hn) W (hi.bel.blk b1 b1.lt hne) hi.bg).mono ?_;rintro e W' ⟨rfl,hU⟩;refine ⟨rfl,⟨hi.bel.trans (hU.bel.mono hi.bel.size),?_⟩,hU.keep hlt⟩;rw [ZhU];unfold ZfG;rw [List.foldl_append];exact hU.blk
 ·intro pre x r W hi hxs;refine (cNo2 x W).mono ?_;rintro e W' ⟨rfl,rfl⟩;have hb:Below W1.heap.size W (W.alloc (.cells x.cells 65)):=(Below.refl _ _).alloc hi.bel.size _;exact ⟨rfl,⟨hi.bel.trans (Zl.of hb),by rw [Zjl]; exact hi.bg.alloc _⟩,Z0.alloc _ _ _⟩
def ZiB (p:KP) (bw:Nat) (W:World) (e:Ending) (W':World):Prop :=
 ∃ g0 g1,e = .returned (.func (.func 41) #[] #[.pointer (some ⟨g0,0,none⟩),.pointer (some ⟨g1,0,none⟩)])∧W.heap.size≤g0∧W.heap.size≤g1∧Hid (Below W.heap.size W W')∧Hid (Blk W' g0 54 #[.pointer (some ⟨bw,0,none⟩)])∧Hid (Blk W' g1 31 p.cells)
theorem ZnK (p:KP) (bw:Nat) (W:World):Calls Tryz.prog 14 #[.pointer (some ⟨bw,0,none⟩),.agg p.cells] W (ZiB p bw W):=by
 obtain ⟨W0,hW0⟩:∃ W0,(W.alloc (.cells #[.pointer (some ⟨bw,0,none⟩)] 54)).alloc (.cells p.cells 31)=W0:=⟨_,rfl⟩
 have H0:Hid (Below W.heap.size W W0):=Lh (by rw [← hW0]; exact ((Below.refl _ _).alloc (Nat.le_refl _) _).alloc (by simp) _);have H1:Hid (Blk W0 W.heap.size 54 #[.pointer (some ⟨bw,0,none⟩)]):=Lh (by rw [← hW0]; exact (Blk.new _ _ _).alloc _);have H2:Hid (Blk W0 (W.heap.size+1) 31 p.cells):=Lh (by rw [← hW0]; have:=Blk.new (W.alloc (.cells #[.pointer (some ⟨bw,0,none⟩)] 54)) 31 p.cells; rwa [World.size_alloc] at this)
 have HR:Hid (∀ W',W'=W0→ZiB p bw W (.returned (.func (.func 41) #[] #[.pointer (some ⟨W.heap.size,0,none⟩),.pointer (some ⟨W.heap.size+1,0,none⟩)])) W'):=Lh fun W' h=>by
  subst h;exact ⟨_,_,rfl,Nat.le_refl _,Nat.le_succ _,H0,H1,H2⟩
 generalize hPO:ZiB p bw W=PO at *;clear hPO H0 H1 H2;simp only [KP.cells] at hW0 ⊢;go_enter Tryz.func14,Tryz.ntmps14
 go_wp2
 exact HR.out _ rfl
end Go.Proofs.YtjndhfcfcedheaaGreatDoor
