/- Texts that belong together: D3 S2 CT CW. -/
import Derived.Test.YtjndhfcfcedheaaGreatDoorHK11
import Derived.Test.YtjndhfcfcedheaaGreatDoorHK4
import Derived.Lib.ParseIntBCases
import Derived.Test.YtjndhfcfcedheaaGreatDoorHK23
import Derived.Test.YtjndhfcfcedheaaGreatDoorHK3
import Derived.Test.YtjndhfcfcedheaaGreatDoorHK10
import Derived.Test.YtjndhfcfcedheaaGreatDoorHK1
import Derived.Test.YtjndhfcfcedheaaGreatDoorHK14
import Derived.BigQuiet
import Derived.Deep.AppendLies
import Derived.IntWalk
import Derived.Laws.Rows
import Derived.Lib.Bytealg
import Derived.Lib.ConvBytes
import Derived.Lib.Hide
import Derived.Lib.IndexBytes
import Derived.Lib.IndexMore
import Derived.Lib.ParseIntB
import Derived.Lib.ParseIntBTie
import Derived.Maps.OwnSet
import Derived.Shelf.Small.Strs
set_option linter.unusedVariables false
set_option linter.unusedSimpArgs false
set_option maxRecDepth 100000
set_option maxHeartbeats 16000000
namespace Go.Proofs.YtjndhfcfcedheaaGreatDoor
open Go.RowKit
mutual
def ZbL:KE→Nat
 | ⟨_,_,_,_,_,_,_,l⟩=>ZdI l+1
def ZdI:List KE→Nat
 | []=>0
 | e :: l=>ZbL e+ZdI l
end
theorem Zda (e:KE):ZbL e=ZdI e.l+1:=by
 obtain ⟨k,o,t,n,v,A,c,l⟩:=e;rw [ZbL]
theorem ZdH:∀ {l:List KE} {inside left r:Nat},(∀ e∈l,∀ (a r:Nat),ZU inside a e=some r→ZbL e+r=a)→Z8 inside left l=some r→ZdI l+r=left
 | [],inside,left,r,_,h=>by rw [Z8] at h; injection h with h; rw [ZdI]; omega
 | x :: l,inside,left,r,hall,h=>by
   rw [Z8] at h
   cases hx:ZU inside left x with
   | none=>rw [hx] at h; cases h
   | some y =>
     rw [hx] at h;have h1:=hall x (by simp) _ _ hx;have h2:=ZdH (l:=l) (fun e he=>hall e (by simp [he])) h;rw [ZdI]
     omega
theorem ZdT (e:KE):∀ (inside left r:Nat),ZU inside left e=some r→ZbL e+r=left:=by
 induction e using KE.ind with
 | h e ih =>
   intro inside left r h;rw [Zci] at h
   split at h
   ·cases h
   ·rename_i hc;have:=ZdH (fun x hx a r=>ih x hx (inside+1) a r) h
    have h0:left≠0:=by intro h; subst h; simp at hc
    rw [Zda]
    omega
theorem Zh1 {e:KE} (h:Zaa e=true):ZbL e≤256:=by
 unfold Zaa at h
 cases hr:ZU 0 256 e with
 | none=>rw [hr] at h; cases h
 | some r=>have:=ZdT e _ _ _ hr; omega
theorem ZiV {e a:KE} (h:e.l=[a]):ZbL e=ZbL a+1:=by rw [Zda,h,ZdI,ZdI]
theorem ZiU {e a b:KE} {r:List KE} (h:e.l=a :: b :: r):ZbL a+ZbL b+1≤ZbL e:=by
 have:=Zda e;rw [h,ZdI,ZdI] at this
 omega
def Ze6 (R:Option Nat) (left:Nat):Int:=match R with
 | none=>-1
 | some r=>(left:Int) - r
theorem rLook (e:KE):∀ (inside left B:Nat) (w:World),inside≤32→left≤256→e.In w B→B≤w.heap.size →
  Calls Tryz.prog 98 #[.agg e.cells,.int .i64 (left:Nat),.int .i64 ((32:Int) - inside)] w (Zu (.int .i64 (Ze6 (ZU inside left e) left)) w):=by
 induction e using KE.ind with
 | h e ih =>
   intro inside left B w hi32 hl256 hin hB;have hio:=KE.all_iff.1 hin
   obtain ⟨W0,hW0⟩:∃ W,w.alloc (.cells e.cells 65)=W:=⟨_,rfl⟩
   have K0:Below w.heap.size w W0:=by rw [← hW0]; exact (Below.refl _ _).alloc (Nat.le_refl _) _
   have b0:Blk W0 w.heap.size 65 e.cells:=by rw [← hW0]; exact Blk.new _ _ _
   have HSH:=Lh fun W=>ZpC e W hio.1.1.2.2.2.1 hio.1.1.2.2.2.2.1 hio.1.1.2.2.2.2.2 hio.1.1.1;have heq:=Zci inside left e
   have hkes:Zbm w B e.A e.l:=⟨hio.1.1.2.2.2.2.2,hio.1.2,hio.2⟩
   have HKE:=Lh hkes;have HIH:=Lh ih;have HK0:=Lh K0;have HB0:=Lh b0
   obtain ⟨D,hD⟩:∃ D:Int,(32:Int) - inside=D:=⟨_,rfl⟩
   rw [hD];simp only [KE.cells] at b0 hW0 HSH HB0 ⊢;obtain ⟨c0,c1,c2,c3,c4,c5⟩:=b0.c6;simp at c0 c1 c2 c3 c4 c5;have hlt:=b0.lt
   obtain ⟨R,hR⟩:∃ R,ZU inside left e=R:=⟨_,rfl⟩
   rw [hR] at heq ⊢;clear b0 K0 hin hio hkes hR ih
   by_cases h0:left=0
   ·subst h0
    obtain rfl:R=none:=by rw [heq]; simp
    clear heq;simp only [Ze6];go_enter Tryz.func98,Tryz.ntmps98
    go_wp2
    go_ret;exact ⟨rfl,HK0.out⟩
   have h0i:¬ (left:Int) < 1:=by omega
   by_cases h32:inside=32
   ·have hD1:D < 1:=by omega
    obtain rfl:R=none:=by rw [heq,h32]; simp
    clear heq;simp only [Ze6];go_enter Tryz.func98,Tryz.ntmps98
    go_wp2
    go_ret;exact ⟨rfl,HK0.out⟩
   have hD1:¬ D < 1:=by omega
   have hD2:D≤32:=by omega
   cases hf:Zq e with
   | false =>
     obtain rfl:R=none:=by rw [heq,hf]; simp
     rw [hf] at HSH;simp only [Ze6];clear hf heq;go_enter Tryz.func98,Tryz.ntmps98
     go_wp2_with first
      | (go_at_call 108; (with_reducible refine (HSH.out _).mono ?_); rintro e1 w1 ⟨rfl,hb1⟩)
     go_ret;exact ⟨rfl,HK0.out.trans (hb1.mono HK0.out.size)⟩
   | true =>
     have hE:R=Z8 (inside+1) (left - 1) e.l:=by rw [heq,hf]; simp [h0]; omega
     have HE:=Lh hE;rw [hf] at HSH;have HD:=Lh hD;clear hf heq hE hD
     obtain ⟨m,hm⟩:∃ m,e.l.length=m:=⟨_,rfl⟩
     rw [hm] at HB0 hW0 c5 HSH ⊢;have HM:=Lh hm
     have hm2:m≤140737488355328:=by rw [← hm]; exact HKE.out.1
     clear hm;go_enter Tryz.func98,Tryz.ntmps98
     go_wp2_with first
      | (go_at_call 108; (with_reducible refine (HSH.out _).mono ?_); rintro e1 w1 ⟨rfl,hb1⟩
         have K1:=Lh (HK0.out.trans (hb1.mono HK0.out.size));have B1:=Lh (HB0.out.call hb1)
         clear hb1)
     go_loopw [7,8] (fun n i wr=>∃ (k r:Nat) (q:Int),k≤m∧r < left∧q=left - r∧n = .int .i64 q∧i = .int .i64 k∧Hid (Z8 (inside+1) (left - 1) (e.l.take k)=some r)∧Hid (Below w.heap.size w wr)∧Hid (Blk wr w.heap.size 65 #[.int .u8 e.kind,.int .u8 e.oper,.int .u8 e.tk,.int .i32 e.n,.int .i64 e.v,.slice e.A m e.c])) (fun _ i _=>m - (intOf i).toNat)
     case atStart=>exact ⟨0,left - 1,1,Nat.zero_le _,by omega,by omega,rfl,rfl,Lh (by rw [List.take_zero,Z8]),K1,B1⟩
     case round =>
      clear K1 B1;obtain ⟨k,r,q,hk,hr,hq,rfl,rfl,HR,K,BX⟩:=hrel;have bx:=BX.out;obtain ⟨d0,d1,d2,d3,d4,d5⟩:=bx.c6;simp at d0 d1 d2 d3 d4 d5;have hbw:=bx.lt;clear bx;have HQ:=Lh hq
      have hq1:1≤q∧q≤256:=by omega
      by_cases hlt2:k < m
      ·have hltI:(k:Int) < m:=by omega
       have hkN:¬ m≤k:=by omega
       obtain ⟨b,off,x,hA,hb,hx,hxi,x0,x1,x2,x3,x4,x5⟩:=Zba (HKE.out.below (K.out.mono hB)) (by rw [HM.out]; exact hlt2)
       have hbw2:b < wr.heap.size:=by have:=K.out.size; omega
       have hxw:x.In w B:=HKE.out.2.2 x (List.mem_of_getElem? hx)
       obtain ⟨V,hV⟩:∃ V,Ze6 (ZU (inside+1) r x) r=V:=⟨_,rfl⟩
       have HC:Hid (∀ W,Below w.heap.size w W→Calls Tryz.prog 98 #[.agg x.cells,.int .i64 ((left:Int) - q),.int .i64 (D - 1)] W (Zu (.int .i64 V) W)):=Lh fun W hbW=>by
        have h1:=HIH.out x (List.mem_of_getElem? hx) (inside+1) r B W (by omega) (by omega) (hxw.below (hbW.mono hB)) (Nat.le_trans hB hbW.size);rw [hV] at h1;rw [show (left:Int) - q=(r:Nat) by omega,show D - 1=(32:Int) - ((inside+1:Nat):Int) by have:=HD.out; omega];exact h1
       have HX:=Lh hx;have HV:=Lh hV;simp only [KE.cells] at HC
       cases hR2:ZU (inside+1) r x with
       | none =>
         have hV1:V = -1:=by rw [← hV,hR2]; rfl
         have hRn:R=none:=by rw [HE.out]; exact Zdt hx HR.out hR2
         have HRN:=Lh hRn;subst hV1;clear hV hx hR2 hRn hq;rw [hA] at d5 ⊢;clear hA
         go_wp2_with first
          | (go_at_call 98; (with_reducible refine (HC.out _ K.out).mono ?_); rintro e2 w2 ⟨rfl,hb2⟩)
         go_ret;exact ⟨by rw [HRN.out]; rfl,K.out.trans (hb2.mono K.out.size)⟩
       | some r2 =>
         have hle:=Zec x _ _ _ hR2;have hnd:=ZdT x _ _ _ hR2
         have hn1:1≤ZbL x:=by rw [Zda]; omega
         have hV1:V=(r:Int) - r2:=by rw [← hV,hR2]; rfl
         have HSN:=Lh ((Zcp hx HR.out).trans hR2);have HV2:=Lh hV1
         have hV3:¬ V < 0:=by omega
         have hV4:V≤256:=by omega
         clear hV hx hR2 hq hV1;have HA:=Lh hA;rw [hA] at d5 ⊢;clear hA
         go_wp2_with first
          | (go_at_call 98; (with_reducible refine (HC.out _ K.out).mono ?_); rintro e2 w2 ⟨rfl,hb2⟩
             have K2:=Lh (K.out.trans (hb2.mono K.out.size));have B2:=Lh (BX.out.call hb2)
             clear hb2)
         go_roundw
         case rel=>exact ⟨k+1,r2,q+V,by omega,by omega,by have:=HQ.out; have:=HV2.out; omega,by go_num,by go_num,HSN,K2,by rw [← HA.out]; exact B2⟩
         case measure=>simp [intOf]; omega
      ·have hltI:¬ (k:Int) < m:=by omega
       have hkN:m≤k:=by omega
       have hfin:R=some r:=by
        rw [HE.out,← HR.out,List.take_of_length_le (by rw [HM.out]; exact hkN)]
       have hans:Ze6 R left=q:=by rw [hfin,HQ.out]; rfl
       have HANS:=Lh hans;clear hfin hans hq
       go_wp2
       go_ret;exact ⟨by rw [HANS.out]; rfl,K.out⟩
theorem rMay (e:KE) (B:Nat) (w:World) (hin:e.In w B) (hB:B≤w.heap.size):Calls Tryz.prog 86 #[.agg e.cells] w (Zu (.bool (Zaa e)) w):=by
 obtain ⟨W0,hW0⟩:∃ W,w.alloc (.cells e.cells 65)=W:=⟨_,rfl⟩
 have K0:Below w.heap.size w W0:=by rw [← hW0]; exact (Below.refl _ _).alloc (Nat.le_refl _) _
 have b0:Blk W0 w.heap.size 65 e.cells:=by rw [← hW0]; exact Blk.new _ _ _
 have hl:=rLook e 0 256 B W0 (by omega) (by omega) (hin.below (K0.mono hB)) (Nat.le_trans hB K0.size);rw [show ((256:Nat):Int)=256 from rfl,show (32:Int) - ((0:Nat):Int)=32 from rfl] at hl;have HL:=Lh hl;clear hl
 obtain ⟨V,hV⟩:∃ V,Ze6 (ZU 0 256 e) 256=V:=⟨_,rfl⟩
 rw [hV] at HL
 have hVb:-1≤V∧V≤256:=by
  rw [← hV]
  cases hr:ZU 0 256 e with
  | none=>exact ⟨by simp [Ze6],by simp [Ze6]⟩
  | some r =>
    have h1:=Zec e _ _ _ hr;simp only [Ze6]; omega
 have hval:Zaa e=decide (0 < V):=by
  unfold Zaa;rw [← hV]
  cases hr:ZU 0 256 e with
  | none=>simp [Ze6]
  | some r =>
    have h1:=ZdT e _ _ _ hr
    have h2:1≤ZbL e:=by rw [Zda]; omega
    simp only [Ze6,Option.isSome_some]
    symm
    exact decide_eq_true (by omega)
 have HV:=Lh hval;have HK0:=Lh K0;simp only [KE.cells] at b0 hW0 HL ⊢;obtain ⟨c0,c1,c2,c3,c4,c5⟩:=b0.c6;simp at c0 c1 c2 c3 c4 c5;have hlt:=b0.lt;clear hV hval b0 K0;go_enter Tryz.func86,Tryz.ntmps86
 go_wp2_with first
  | (go_at_call 98; (with_reducible refine HL.out.mono ?_); rintro e1 w1 ⟨rfl,hb1⟩)
 go_ret;exact ⟨by rw [HV.out]; rfl,HK0.out.trans (hb1.mono HK0.out.size)⟩
section
end
theorem Zkr {w:World} {B:Nat} {A:Option Addr} {a b:KE} (h:Zbm w B A [a,b]):∃ q off,A=some ⟨q,off,none⟩∧q < B ∧
  ∀ w',Below B w w'→(w'.cell? ⟨q,off,none⟩=some (.int .u8 a.kind)∧w'.cell? ⟨q,off+1,none⟩=some (.int .u8 a.oper)∧w'.cell? ⟨q,off+2,none⟩=some (.int .u8 a.tk)∧w'.cell? ⟨q,off+3,none⟩=some (.int .i32 a.n)∧w'.cell? ⟨q,off+4,none⟩=some (.int .i64 a.v)∧w'.cell? ⟨q,off+5,none⟩=some (.slice a.A a.l.length a.c)) ∧
   (w'.cell? ⟨q,off+6,none⟩=some (.int .u8 b.kind)∧w'.cell? ⟨q,off+6+1,none⟩=some (.int .u8 b.oper)∧w'.cell? ⟨q,off+6+2,none⟩=some (.int .u8 b.tk)∧w'.cell? ⟨q,off+6+3,none⟩=some (.int .i32 b.n)∧w'.cell? ⟨q,off+6+4,none⟩=some (.int .i64 b.v)∧w'.cell? ⟨q,off+6+5,none⟩=some (.slice b.A b.l.length b.c)):=by
 obtain ⟨q,off,rfl,hq,hc⟩:=h.2.1.addr (by simp) (by omega);refine ⟨q,off,rfl,hq,fun w' hb=>?_⟩;have hk:∀ o,w'.cell? ⟨q,o,none⟩=w.cell? ⟨q,o,none⟩:=fun o=>hb.cell (p:=⟨q,o,none⟩) hq;simp only [hk];exact ⟨⟨hc 0 _ rfl,hc 1 _ rfl,hc 2 _ rfl,hc 3 _ rfl,hc 4 _ rfl,hc 5 _ rfl⟩,hc 6 _ rfl,hc 7 _ rfl,hc 8 _ rfl,hc 9 _ rfl,hc 10 _ rfl,hc 11 _ rfl⟩
theorem Ze0 {e:KE} (h:Zq e=true):(e.l.length=0∧(e.kind=1∨e.kind=2))∨(e.l.length=1∧(e.kind=3∨e.kind=4∨e.kind=6))∨(e.l.length=2∧e.kind=5):=by
 unfold Zq at h
 split at h <;> first | (have h:=of_decide_eq_true h; omega) | cases h
theorem ZnR {w:World} {B:Nat} {A:Option Addr} {a:KE} (h:Zbm w B A [a]):∃ q off,A=some ⟨q,off,none⟩∧q < B ∧
  ∀ w',Below B w w'→w'.cell? ⟨q,off,none⟩=some (.int .u8 a.kind)∧w'.cell? ⟨q,off+1,none⟩=some (.int .u8 a.oper)∧w'.cell? ⟨q,off+2,none⟩=some (.int .u8 a.tk)∧w'.cell? ⟨q,off+3,none⟩=some (.int .i32 a.n)∧w'.cell? ⟨q,off+4,none⟩=some (.int .i64 a.v)∧w'.cell? ⟨q,off+5,none⟩=some (.slice a.A a.l.length a.c):=by
 obtain ⟨q,off,rfl,hq,hc⟩:=h.2.1.addr (by simp) (by omega);refine ⟨q,off,rfl,hq,fun w' hb=>?_⟩;have hk:∀ o,w'.cell? ⟨q,o,none⟩=w.cell? ⟨q,o,none⟩:=fun o=>hb.cell (p:=⟨q,o,none⟩) hq;simp only [hk];exact ⟨hc 0 _ rfl,hc 1 _ rfl,hc 2 _ rfl,hc 3 _ rfl,hc 4 _ rfl,hc 5 _ rfl⟩
end Go.Proofs.YtjndhfcfcedheaaGreatDoor
