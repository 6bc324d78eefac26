/- Texts that belong together: KRB KRC. -/
import Derived.Test.YtjndhfcfcedheaaGreatDoorHK15
import Derived.Test.YtjndhfcfcedheaaGreatDoorHK4
set_option linter.unusedVariables false
set_option linter.unusedSimpArgs false
set_option maxRecDepth 100000
set_option maxHeartbeats 16000000
namespace Go.Proofs.YtjndhfcfcedheaaGreatDoor
open Go.RowKit
def Zam:Option Nat→Int
 | none=>-1
 | some r=>r
def Zqx (e:KE):Prop:=∀ (inside left B:Nat) (w:World),inside≤32→left≤256→e.In w B→B≤w.heap.size →
 Calls Tryz.prog 106 #[.agg e.cells,.int .i64 inside,.int .i64 left] w (Zu (.int .i64 (Zam (ZU inside left e))) w)
structure Zl7 (cs:Array Value) (l:List KE) (A:Option Addr) (inside left B:Nat) (w wr:World) (j r:Nat):Prop where
 bel:Below w.heap.size w wr
 box:Blk wr w.heap.size 65 cs
 inn:Zbm wr B A l
 rm:Z8 (inside+1) (left - 1) (l.take j)=some r
 le:r≤256
theorem rRoom (e:KE):Zqx e:=by
 induction e using KE.ind with
 | h e ih =>
   intro inside left B w hd hl hi hB;have hk:=hi.one.1.1;have HP:=Lh hi.parts;have HIH:=Lh ih;have HE:=Lh (Zci inside left e)
   obtain ⟨W0,hW0⟩:∃ W,w.alloc (.cells e.cells 65)=W:=⟨_,rfl⟩
   have b0:Blk W0 w.heap.size 65 e.cells:=by rw [← hW0]; exact Blk.new w _ _
   have HK0:=Lh (show Below w.heap.size w W0 by rw [← hW0]; exact (Below.refl _ _).alloc (Nat.le_refl _) _);have HB0:=Lh b0;have HO:=Lh (ZpD e hk W0);generalize ZU inside left e=R at *;generalize hfb:Zq e=fb at *;obtain ⟨kd,op,tk,nm,vv,A,c,l⟩:=e;simp only [KE.cells] at hW0 b0 HB0 HO HP HIH HE ⊢
   obtain ⟨m,hm⟩:∃ m,l.length=m:=⟨_,rfl⟩
   have HM:=Lh hm;have hlen:=HP.out.1;unfold ZB at hlen;rw [hm] at hW0 b0 HB0 HO hlen ⊢;obtain ⟨e0,e1,e2,e3,e4,e5⟩:=b0.c6;simp at e0 e1 e2 e3 e4 e5;clear b0 hi hk hfb ih hm
   by_cases h32:inside=32
   ·subst h32;go_enter Tryz.func106,Tryz.ntmps106
    go_wp2
    go_ret;exact ⟨by rw [HE.out]; rfl,HK0.out⟩
   have i32:((inside:Int) == 32)=false:=by simp; omega
   have H32:=Lh h32
   by_cases h0:left=0
   ·subst h0;clear h32;go_enter Tryz.func106,Tryz.ntmps106
    go_wp2
    go_ret;exact ⟨by rw [HE.out]; simp [Zam],HK0.out⟩
   have i0:((left:Int) == 0)=false:=by simp; omega
   have H0:=Lh h0
   have hleft:(left:Int) - 1=((left - 1:Nat):Int):=by omega
   clear h32 h0
   cases fb with
   | false =>
     clear hleft;go_enter Tryz.func106,Tryz.ntmps106
     go_wp2_with (go_at_call 117; (with_reducible refine HO.out.mono ?_); rintro e1 w1 ⟨rfl,hb1⟩)
     go_ret;exact ⟨by rw [HE.out]; simp [Zam],HK0.out.trans (hb1.mono HK0.out.size)⟩
   | true =>
     have HE2:Hid (R=Z8 (inside+1) (left - 1) l):=Lh (by rw [HE.out]; have:=H32.out; have:=H0.out; simp; omega);have HLF:=Lh hleft;clear hleft HE;go_enter Tryz.func106,Tryz.ntmps106
     go_wp2_with (first
      | (go_at_call 117; (with_reducible refine HO.out.mono ?_); rintro e1 w1 ⟨rfl,hb1⟩
         have AT0:Hid (Zl7 #[.int .u8 kd,.int .u8 op,.int .u8 tk,.int .i32 nm,.int .i64 vv,.slice A m c] l A inside left B w w1 0 (left - 1)):=Lh ⟨HK0.out.trans (hb1.mono HK0.out.size),HB0.out.call hb1,(HP.out.below (HK0.out.mono hB)).below (hb1.mono (Nat.le_trans hB HK0.out.size)),by rw [List.take_zero,Z8],by omega⟩
         clear hb1))
     go_loopw [2,7] (fun v i wr=>∃ j r:Nat,j≤m∧i = .int .i64 j∧v = .int .i64 r∧Hid (Zl7 #[.int .u8 kd,.int .u8 op,.int .u8 tk,.int .i32 nm,.int .i64 vv,.slice A m c] l A inside left B w wr j r)) (fun _ i _=>m - (intOf i).toNat)
     case atStart=>exact ⟨0,left - 1,Nat.zero_le _,rfl,by rw [HLF.out],AT0⟩
     case round =>
      clear AT0;obtain ⟨j,r,hj,rfl,rfl,AT⟩:=hrel;have bx:=AT.out.box;obtain ⟨g0,g1,g2,g3,g4,g5⟩:=bx.c6;simp at g0 g1 g2 g3 g4 g5;clear bx
      by_cases hlt:j < m
      ·have hltI:(j:Int) < m:=by omega
       obtain ⟨b,off,x,rfl,hb,hx,hin,c0,c1,c2,c3,c4,c5⟩:=Zba AT.out.inn (by rw [HM.out]; exact hlt);have hBw:=Nat.le_trans hB AT.out.bel.size;have hC:=HIH.out x (List.mem_of_getElem? hx) (inside+1) r B wr (by have:=H32.out; omega) AT.out.le hin hBw
       have hs:(((inside+1:Nat):Int))=(inside:Int)+1:=by omega
       rw [hs] at hC;simp only [KE.cells] at hC;have HX:=Lh hx;have HC:=Lh hC;clear hC hs hx hin hBw
       cases hq:ZU (inside+1) r x with
       | none =>
         rw [hq] at HC;simp only [Zam] at HC;have HQ:=Lh hq;clear hq
         go_wp2_with (go_at_call 106; (with_reducible refine HC.out.mono ?_); rintro e1 w1 ⟨rfl,hb1⟩)
         go_ret;exact ⟨by rw [HE2.out,Zdt HX.out AT.out.rm HQ.out]; rfl,AT.out.bel.trans (hb1.mono AT.out.bel.size)⟩
       | some r' =>
         rw [hq] at HC;simp only [Zam] at HC;have HQ:=Lh hq;clear hq
         go_wp2_with (first
          | (go_at_call 106; (with_reducible refine HC.out.mono ?_); rintro e1 w1 ⟨rfl,hb1⟩
             have HN:Hid (Zl7 #[.int .u8 kd,.int .u8 op,.int .u8 tk,.int .i32 nm,.int .i64 vv,.slice (some ⟨b,off,none⟩) m c] l (some ⟨b,off,none⟩) inside left B w w1 (j+1) r') :=
              Lh ⟨AT.out.bel.trans (hb1.mono AT.out.bel.size),AT.out.box.call hb1,AT.out.inn.below (hb1.mono (Nat.le_trans hB AT.out.bel.size)),by rw [Zcp HX.out AT.out.rm,HQ.out],by have:=Zec _ _ _ _ HQ.out; have:=AT.out.le; omega⟩
             clear hb1))
         go_roundw
         case rel=>exact ⟨j+1,r',by omega,by go_num,rfl,HN⟩
         case measure=>simp [intOf]; omega
      ·have hltI:¬ (j:Int) < m:=by omega
       obtain rfl:m=j:=by omega
       have htk:l.take m=l:=List.take_of_length_le (by rw [HM.out]; omega);have hr:=AT.out.rm;rw [htk] at hr;have HR:=Lh hr;clear hr htk
       go_wp2
       go_ret;exact ⟨by rw [HE2.out,HR.out]; rfl,AT.out.bel⟩
theorem Zmt (e:KE) (B:Nat) (w:World) (hi:e.In w B) (hB:B≤w.heap.size):Calls Tryz.prog 96 #[.agg e.cells] w (Zu (.bool (Zaa e)) w):=by
 obtain ⟨W0,hW0⟩:∃ W,w.alloc (.cells e.cells 65)=W:=⟨_,rfl⟩
 have b0:Blk W0 w.heap.size 65 e.cells:=by rw [← hW0]; exact Blk.new w _ _
 have K0:Below w.heap.size w W0:=by rw [← hW0]; exact (Below.refl _ _).alloc (Nat.le_refl _) _
 have HK0:=Lh K0;have HC:=Lh (show Calls Tryz.prog 106 #[.agg e.cells,.int .i64 0,.int .i64 256] W0 (Zu (.int .i64 (Zam (ZU 0 256 e))) W0) from rRoom e 0 256 B W0 (by omega) (by omega) (hi.below (K0.mono hB)) (Nat.le_trans hB K0.size))
 have HV:Hid (Zaa e=decide (0≤Zam (ZU 0 256 e))):=Lh (by
  unfold Zaa
  cases ZU 0 256 e with
  | none=>rfl
  | some r=>simp [Zam])
 generalize Zam (ZU 0 256 e)=z at *;generalize Zaa e=R at *;simp only [KE.cells] at hW0 b0 HC ⊢;obtain ⟨e0,e1,e2,e3,e4,e5⟩:=b0.c6;simp at e0 e1 e2 e3 e4 e5;clear b0 K0 hi;go_enter Tryz.func96,Tryz.ntmps96
 go_wp2_with (go_at_call 106; (with_reducible refine HC.out.mono ?_); rintro e1 w1 ⟨rfl,hb1⟩)
 go_ret;exact ⟨by refine Za rfl ?_; rw [HV.out],HK0.out.trans (hb1.mono HK0.out.size)⟩
section
def Zao (vs:List ZZ) (e:KE) (q:Int):Bool:=Zt vs e q.toNat
def Zhb (W:World) (b off:Nat) (y:KE):Prop:=∀ j u,y.cells[j]? = some u→W.cell? ⟨b,off+j,none⟩=some u
theorem Zhb.six {W:World} {b off:Nat} {y:KE} (h:Zhb W b off y):W.cell? ⟨b,off,none⟩=some (.int .u8 y.kind)∧W.cell? ⟨b,off+1,none⟩=some (.int .u8 y.oper)∧W.cell? ⟨b,off+2,none⟩=some (.int .u8 y.tk) ∧
  W.cell? ⟨b,off+3,none⟩=some (.int .i32 y.n)∧W.cell? ⟨b,off+4,none⟩=some (.int .i64 y.v)∧W.cell? ⟨b,off+5,none⟩=some (.slice y.A y.l.length y.c) :=
 ⟨h 0 _ rfl,h 1 _ rfl,h 2 _ rfl,h 3 _ rfl,h 4 _ rfl,h 5 _ rfl⟩
theorem Zhb.below {W W':World} {b off B:Nat} {y:KE} (h:Zhb W b off y) (hb:Below B W W') (hlt:b < B):Zhb W' b off y:=fun j u hu=>(hb.cell (p:=⟨b,off+j,none⟩) hlt).trans (h j u hu)
theorem kes_row {w:World} {B:Nat} {A:Option Addr} {l:List KE} (h:Zbm w B A l) {k:Nat} (hk:k < l.length) :
  ∃ b off x,A=some ⟨b,off,none⟩∧b < B∧l[k]? = some x∧x.In w B∧Zhb w b (off+k * 6) x:=by
 obtain ⟨b,off,x,h1,h2,h3,h4,h5⟩:=Zln h hk;exact ⟨b,off,x,h1,h2,h3,h4,fun j u hu=>h5 j u hu⟩
def ZiC (vs:List ZZ) (e:KE):Prop:=∀ (q:Int),q=1∨q=2∨q=3→∀ (Av:Option Addr) (cv B:Nat) (w:World),Zo w B 2 Av vs.length (Zgc vs)→vs.length≤256→e.In w B→B≤w.heap.size →
 Calls Tryz.prog 97 #[.slice Av vs.length cv,.agg e.cells,.int .u8 q] w (Zu (.bool (Zao vs e q)) w)
structure Zjt (w W:World) (cs:Array Value) (B b off:Nat) (y:KE):Prop where
 bel:Below w.heap.size w W
 box:Blk W w.heap.size 65 cs
 row:Zhb W b off y
 lt:b < w.heap.size
theorem Zjt.call {w W W1:World} {cs:Array Value} {B b off:Nat} {y:KE} (h:Zjt w W cs B b off y) (hb:Below W.heap.size W W1):Zjt w W1 cs B b off y :=
 ⟨h.bel.trans (hb.mono h.bel.size),h.box.call hb,h.row.below hb (Nat.lt_of_lt_of_le h.lt h.bel.size),h.lt⟩
section
variable {vs:List ZZ} {Av:Option Addr} {cv B:Nat} {w:World} {o t c:Nat} {n v q:Int} {A:Option Addr}
theorem ZkY (l:List KE) (hq:q=1∨q=2∨q=3) (hn:ZfO n) (nv:Nat) :
  Calls Tryz.prog 97 #[.slice Av nv cv,.agg #[.int .u8 1,.int .u8 o,.int .u8 t,.int .i32 n,.int .i64 v,.slice A l.length c],.int .u8 q] w (Zu (.bool (Zao vs ⟨1,o,t,n,v,A,c,l⟩ q)) w):=by
 have HK0:=Lh ((Below.refl w.heap.size w).alloc (Nat.le_refl _) (.cells #[.int .u8 1,.int .u8 o,.int .u8 t,.int .i32 n,.int .i64 v,.slice A l.length c] 65));have HQ:=Lh (show ∀ k:Nat,Zt vs ⟨1,o,t,n,v,A,c,l⟩ k=(k == 1 || (k == 2 && decide (0≤n∧n≤255)) || (k == 3 && decide (n=0∨n=1))) from fun k=>by simp only [Zt]);unfold Zao;generalize Zt vs ⟨1,o,t,n,v,A,c,l⟩=F at *;generalize l.length=m at *
 rcases hq with rfl | rfl | rfl
 all_goals
  go_enter Tryz.func97,Tryz.ntmps97
  go_wp2
  all_goals (go_ret; exact ⟨by refine Za rfl ?_; rw [HQ.out]; rw [Bool.eq_iff_iff]; simp_all <;> omega,(Below.refl _ _).alloc (Nat.le_refl _) _⟩)
theorem ZkX (l:List KE) (hq:q=1∨q=2∨q=3) (hv0:0≤v) (hB:B≤w.heap.size) (hr:Zo w B 2 Av vs.length (Zgc vs)) :
  Calls Tryz.prog 97 #[.slice Av vs.length cv,.agg #[.int .u8 2,.int .u8 o,.int .u8 t,.int .i32 n,.int .i64 v,.slice A l.length c],.int .u8 q] w (Zu (.bool (Zao vs ⟨2,o,t,n,v,A,c,l⟩ q)) w):=by
 obtain ⟨W0,hW0⟩:∃ W,w.alloc (.cells #[.int .u8 2,.int .u8 o,.int .u8 t,.int .i32 n,.int .i64 v,.slice A l.length c] 65)=W:=⟨_,rfl⟩
 have b0:Blk W0 w.heap.size 65 #[.int .u8 2,.int .u8 o,.int .u8 t,.int .i32 n,.int .i64 v,.slice A l.length c]:=by rw [← hW0]; exact Blk.new w _ _
 have K0:Below w.heap.size w W0:=by rw [← hW0]; exact (Below.refl _ _).alloc (Nat.le_refl _) _
 have HK0:=Lh K0;have hr0:=hr.below (K0.mono hB)
 have HQ:=Lh (show ∀ k:Nat,Zt vs ⟨2,o,t,n,v,A,c,l⟩ k=match vs[v.toNat]? with
  | some x=>decide (x.dim=0) && x.kind == k
  | none=>false from fun k=>by simp only [Zt]; rfl)
 unfold Zao;generalize Zt vs ⟨2,o,t,n,v,A,c,l⟩=F at *;generalize l.length=m at *;obtain ⟨e0,e1,e2,e3,e4,e5⟩:=b0.c6;simp at e0 e1 e2 e3 e4 e5;clear b0 K0 hr hB
 by_cases hv:v < (vs.length:Int)
 ·obtain ⟨b',off',x,rfl,hb',hx,hm',d0,d1⟩:=Zb2 hr0 rfl (k:=v.toNat) (by omega);rw [hx] at HQ;generalize vs.length=nv at *
  have hk2:∀ k:Nat,((x.kind:Int) == (k:Int))=(x.kind == k):=fun k=>by rw [Bool.eq_iff_iff]; simp; omega
  have h1:=hk2 1;have h2:=hk2 2;have h3:=hk2 3;clear hx hm' hr0 hk2
  rcases hq with rfl | rfl | rfl
  all_goals
   go_enter Tryz.func97,Tryz.ntmps97
   go_wp2
   all_goals (go_ret; exact ⟨by refine Za rfl ?_; rw [HQ.out]; rw [Bool.eq_iff_iff]; simp_all <;> omega,HK0.out⟩)
 ·have hx:=List.getElem?_eq_none (l:=vs) (i:=v.toNat) (by omega);rw [hx] at HQ;generalize vs.length=nv at *;clear hr0 hx
  rcases hq with rfl | rfl | rfl
  all_goals
   go_enter Tryz.func97,Tryz.ntmps97
   go_wp2
   all_goals (go_ret; exact ⟨by refine Za rfl ?_; rw [HQ.out],HK0.out⟩)
end
end
end Go.Proofs.YtjndhfcfcedheaaGreatDoor
