/- Texts that belong together: KRE KRF KRG KRH VE VA VB. -/
import Derived.Test.YtjndhfcfcedheaaGreatDoorHK17
import Derived.Test.YtjndhfcfcedheaaGreatDoorHK5
import Derived.Test.YtjndhfcfcedheaaGreatDoorHK6
import Derived.Test.YtjndhfcfcedheaaGreatDoorHK14
import Derived.Test.YtjndhfcfcedheaaGreatDoorHK10
set_option linter.unusedVariables false
set_option linter.unusedSimpArgs false
set_option maxRecDepth 100000
set_option maxHeartbeats 16000000
namespace Go.Proofs.YtjndhfcfcedheaaGreatDoor
open Go.RowKit
section
theorem Zcg.mono {vs:List ZZ} {Av:Option Addr} {cv nv:Nat} {w w':World} {y:KE} {q:Int} {p:Bool} (h:Zcg vs Av cv nv w y q p) (hb:Below w.heap.size w w'):Zcg vs Av cv nv w' y q p :=
 fun w1 h1=>h w1 (hb.trans (h1.mono hb.size))
section
variable {vs:List ZZ} {Av:Option Addr} {cv nv B:Nat} {w:World} {o t c b off kd:Nat} {n v q:Int} {y z:KE} {p1 p2 p3:Bool}
theorem rBoth (hb:b < w.heap.size) (hy:Zhb w b off y) (hz:Zhb w b (off+6) z) (HY:Zcg vs Av cv nv w y q p1) (HZ:Zcg vs Av cv nv w z q p2) :
  Calls Tryz.prog 107 #[.slice Av nv cv,.agg #[.int .u8 kd,.int .u8 o,.int .u8 t,.int .i32 n,.int .i64 v,.slice (some ⟨b,off,none⟩) 2 c],.int .u8 q] w (Zu (.bool (p1 && p2)) w):=by
 obtain ⟨W0,hW0⟩:∃ W,w.alloc (.cells #[.int .u8 kd,.int .u8 o,.int .u8 t,.int .i32 n,.int .i64 v,.slice (some ⟨b,off,none⟩) 2 c] 65)=W:=⟨_,rfl⟩
 have b0:Blk W0 w.heap.size 65 #[.int .u8 kd,.int .u8 o,.int .u8 t,.int .i32 n,.int .i64 v,.slice (some ⟨b,off,none⟩) 2 c]:=by rw [← hW0]; exact Blk.new w _ _
 have K0:Below w.heap.size w W0:=by rw [← hW0]; exact (Below.refl _ _).alloc (Nat.le_refl _) _
 have S:Hid (Zjt w W0 #[.int .u8 kd,.int .u8 o,.int .u8 t,.int .i32 n,.int .i64 v,.slice (some ⟨b,off,none⟩) 2 c] 0 b off y):=Lh ⟨K0,b0,hy.below K0 hb,hb⟩;have S2:Hid (Zjt w W0 #[.int .u8 kd,.int .u8 o,.int .u8 t,.int .i32 n,.int .i64 v,.slice (some ⟨b,off,none⟩) 2 c] 0 b (off+6) z):=Lh ⟨K0,b0,hz.below K0 hb,hb⟩;obtain ⟨c0,c1,c2,c3,c4,c5⟩:=S.out.row.six;obtain ⟨d0,d1,d2,d3,d4,d5⟩:=S2.out.row.six;obtain ⟨e0,e1,e2,e3,e4,e5⟩:=b0.c6;simp at e0 e1 e2 e3 e4 e5;have HYH:=Lh HY;have HZH:=Lh HZ;clear b0 K0 hy hz HY HZ;unfold Zcg at HYH HZH
 cases p1
 all_goals
  go_enter Tryz.func107,Tryz.ntmps107
  go_wp2_with (first
   | (go_at_call 97; (with_reducible refine (HYH.out _ S.out.bel).mono ?_); rintro e1 w1 ⟨rfl,hb1⟩
      replace S:=Lh (S.out.call hb1);replace S2:=Lh (S2.out.call hb1);obtain ⟨d0,d1,d2,d3,d4,d5⟩:=S2.out.row.six;have x0:=S.out.box;obtain ⟨e0,e1,e2,e3,e4,e5⟩:=x0.c6;simp at e0 e1 e2 e3 e4 e5
      clear x0 hb1)
   | (go_at_call 97; (with_reducible refine (HZH.out _ S.out.bel).mono ?_); rintro e1 w1 ⟨rfl,hb1⟩
      replace S:=Lh (S.out.call hb1)
      clear hb1))
  all_goals (go_ret; exact ⟨by refine Za rfl ?_; simp,S.out.bel⟩)
theorem ZjE (hq:q=1∨q=2∨q=3) (hv0:0≤v) (hB:B≤w.heap.size) (hr:Zo w B 2 Av vs.length (Zgc vs)) (hb:b < w.heap.size) (hy:Zhb w b off y) (H1:Hid (Zcg vs Av cv vs.length w y 1 p1)) :
  Calls Tryz.prog 97 #[.slice Av vs.length cv,.agg #[.int .u8 3,.int .u8 o,.int .u8 t,.int .i32 n,.int .i64 v,.slice (some ⟨b,off,none⟩) 1 c],.int .u8 q] w
   (Zu (.bool (match vs[v.toNat]? with
    | some x=>decide (0 < x.dim) && ((x.kind:Int) == q) && p1
    | none=>false)) w):=by
 obtain ⟨W0,hW0⟩:∃ W,w.alloc (.cells #[.int .u8 3,.int .u8 o,.int .u8 t,.int .i32 n,.int .i64 v,.slice (some ⟨b,off,none⟩) 1 c] 65)=W:=⟨_,rfl⟩
 have b0:Blk W0 w.heap.size 65 #[.int .u8 3,.int .u8 o,.int .u8 t,.int .i32 n,.int .i64 v,.slice (some ⟨b,off,none⟩) 1 c]:=by rw [← hW0]; exact Blk.new w _ _
 have K0:Below w.heap.size w W0:=by rw [← hW0]; exact (Below.refl _ _).alloc (Nat.le_refl _) _
 have S:Hid (Zjt w W0 #[.int .u8 3,.int .u8 o,.int .u8 t,.int .i32 n,.int .i64 v,.slice (some ⟨b,off,none⟩) 1 c] 0 b off y):=Lh ⟨K0,b0,hy.below K0 hb,hb⟩;obtain ⟨c0,c1,c2,c3,c4,c5⟩:=S.out.row.six;obtain ⟨e0,e1,e2,e3,e4,e5⟩:=b0.c6;simp at e0 e1 e2 e3 e4 e5;have hr0:=hr.below (K0.mono hB);clear b0 K0 hy hr hB;unfold Zcg at H1
 by_cases hv:v < (vs.length:Int)
 ·obtain ⟨b',off',x,rfl,hb',hx,hm',d0,d1⟩:=Zb2 hr0 rfl (k:=v.toNat) (by omega);rw [hx]
  simp only
  generalize vs.length=nv at *
  obtain ⟨d,hd⟩:∃ d:Bool,((x.kind:Int) == q)=d:=⟨_,rfl⟩
  rw [hd];clear hx hm' hr0
  by_cases hdm:0 < x.dim
  all_goals
   rcases hq with rfl | rfl | rfl <;> cases d
   all_goals
    have HD:=Lh hdm;go_enter Tryz.func97,Tryz.ntmps97
    go_wp2_with (first
     | (go_at_call 97; (with_reducible refine (H1.out _ S.out.bel).mono ?_); rintro e1 w1 ⟨rfl,hb1⟩
        replace S:=Lh (S.out.call hb1)
        clear hb1))
    all_goals (go_ret; exact ⟨by refine Za rfl ?_; first | (simp [hdm]; done) | simp [Int.not_lt.2 hdm],S.out.bel⟩)
 ·have hx:=List.getElem?_eq_none (l:=vs) (i:=v.toNat) (by omega);rw [hx]
  simp only
  generalize vs.length=nv at *;clear hr0 hx
  rcases hq with rfl | rfl | rfl
  all_goals
   go_enter Tryz.func97,Tryz.ntmps97
   go_wp2
   all_goals (go_ret; exact ⟨rfl,S.out.bel⟩)
end
end
theorem Zi1 (k:Nat) (q:Int) (hq:q=1∨q=2∨q=3):((k:Int) == q)=(k == q.toNat):=by
 rw [Bool.eq_iff_iff]; simp; rcases hq with rfl | rfl | rfl <;> omega
theorem rFits (vs:List ZZ) (e:KE):e.all (fun x=>Zq x=true)→ZiC vs e:=by
 induction e using KE.ind with
 | h e ih =>
   intro hall q hq Av cv B w hr hl hi hB;have hf:=Zep (KE.all_iff.1 hall).1;have hparts:∀ x∈e.l,ZiC vs x:=fun x hx=>ih x hx ((KE.all_iff.1 hall).2 x hx);have hp:=hi.parts;have hone:=hi.one.1;clear ih hall hi;obtain ⟨kd,op,tk,nm,vv,A,c,l⟩:=e
   simp only at hf hparts hp hone
   simp only [KE.cells]
   rcases hf with ⟨rfl,-⟩ | ⟨rfl,-,h0⟩ | ⟨rfl,hm,h0⟩ | ⟨rfl,hm,h1,h2⟩ | ⟨rfl,hm,h1,h2⟩ | ⟨rfl,hm,h1,h2⟩
   ·exact ZkY l hq hone.2.2.2.1 _
   ·exact ZkX l hq h0 hB hr
   ·obtain ⟨y,rfl⟩:=ZaR hm;obtain ⟨b,off,x,rfl,hb,hx,hin,hrow⟩:=kes_row hp (k:=0) (by simp)
    obtain rfl:y=x:=by simpa using hx
    rw [Nat.zero_mul,Nat.add_zero] at hrow;have:=ZjE (o:=op) (t:=tk) (n:=nm) (c:=c) (cv:=cv) hq h0 hB hr (Nat.lt_of_lt_of_le hb hB) hrow (Lh (Zcg.of (hparts y (by simp)) 1 (by simp) hr hl hin hB))
    have e:Zao vs ⟨3,op,tk,nm,vv,some ⟨b,off,none⟩,c,[y]⟩ q=match vs[vv.toNat]? with
     | some x=>decide (0 < x.dim) && ((x.kind:Int) == q) && Zao vs y 1
     | none=>false:=by
     unfold Zao;simp only [Zt,ZaE]
     cases vs[vv.toNat]? with
     | none=>rfl
     | some x=>simp only [Zi1 _ _ hq]; rfl
    rw [e];exact this
   ·obtain ⟨y,rfl⟩:=ZaR hm;obtain ⟨b,off,x,rfl,hb,hx,hin,hrow⟩:=kes_row hp (k:=0) (by simp)
    obtain rfl:y=x:=by simpa using hx
    rw [Nat.zero_mul,Nat.add_zero] at hrow;have hb':=Nat.lt_of_lt_of_le hb hB;have P:=fun (i:Int) (hi:i=1∨i=2∨i=3)=>Lh (Zcg.of (Av:=Av) (cv:=cv) (hparts y (by simp)) i hi hr hl hin hB);have:=ZkZ (o:=op) (t:=tk) (n:=nm) (v:=vv) (c:=c) (cv:=cv) hb' hrow hq ⟨h1,h2⟩ (P 1 (by simp)) (P 3 (by simp))
    have e:Zao vs ⟨4,op,tk,nm,vv,some ⟨b,off,none⟩,c,[y]⟩ q=if decide (op=26)=true then q == 3 && Zao vs y 3 else q == 1 && Zao vs y 1:=by
     unfold Zao;simp only [Zt,ZaE,decide_eq_true_eq]
     have a1:(q.toNat == 3)=(q == 3):=by rw [Bool.eq_iff_iff]; simp; rcases hq with rfl | rfl | rfl <;> omega
     have a2:(q.toNat == 1)=(q == 1):=by rw [Bool.eq_iff_iff]; simp; rcases hq with rfl | rfl | rfl <;> omega
     rw [a1,a2]
     rfl
    rw [e];exact this
   ·obtain ⟨y,z,rfl⟩:=Zlh hm;obtain ⟨b,off,x,rfl,hb,hx,hin,hrow⟩:=kes_row hp (k:=0) (by simp)
    obtain rfl:y=x:=by simpa using hx
    obtain ⟨b2,off2,x2,e2,hb2,hx2,hin2,hrow2⟩:=kes_row hp (k:=1) (by simp)
    obtain rfl:z=x2:=by simpa using hx2
    injection e2 with e2
    injection e2 with e2 e3
    subst e2 e3;rw [Nat.zero_mul,Nat.add_zero] at hrow;rw [Nat.one_mul] at hrow2;have hb':=Nat.lt_of_lt_of_le hb hB
    have G:=fun (i:Int) (hi:i=1∨i=2∨i=3)=>Lh (show Zev vs Av cv vs.length w #[.int .u8 5,.int .u8 op,.int .u8 tk,.int .i32 nm,.int .i64 vv,.slice (some ⟨b,off,none⟩) 2 c] i (Zao vs y i && Zao vs z i) from
     fun w1 h=>rBoth (Nat.lt_of_lt_of_le hb' h.size) (hrow.below h hb') (hrow2.below h hb') ((Zcg.of (hparts y (by simp)) i hi hr hl hin hB).mono h) ((Zcg.of (hparts z (by simp)) i hi hr hl hin2 hB).mono h))
    have a1:(q.toNat == 1)=(q == 1):=by rw [Bool.eq_iff_iff]; simp; rcases hq with rfl | rfl | rfl <;> omega
    have a3:q.toNat≠3 ↔ q≠3:=by rcases hq with rfl | rfl | rfl <;> simp
    by_cases h13:op≤13
    ·have e:Zao vs ⟨5,op,tk,nm,vv,some ⟨b,off,none⟩,c,[y,z]⟩ q=(q == 1 && (Zao vs y 1 && Zao vs z 1)):=by
      unfold Zao;simp only [Zt,ZaE,if_pos h13,a1]
      rfl
     rw [e];exact ZjF (y:=y) hb' hrow hq h13 (G 1 (by simp))
    by_cases h3:q=3
    ·subst h3
     have e:Zao vs ⟨5,op,tk,nm,vv,some ⟨b,off,none⟩,c,[y,z]⟩ 3=if op=14∨op=15 then (Zao vs y 1 && Zao vs z 1) || (Zao vs y 2 && Zao vs z 2) || (Zao vs y 3 && Zao vs z 3)
       else if op≤19 then (Zao vs y 1 && Zao vs z 1) || (Zao vs y 2 && Zao vs z 2) else if op=22 then Zao vs y 1 && Zao vs z 1 else Zao vs y 3 && Zao vs z 3:=by
      unfold Zao;simp only [Zt,ZaE,if_neg h13]
      rfl
     rw [e]
     by_cases h14:op=14∨op=15
     ·rw [if_pos h14];exact Zk2 (y:=y) hb' hrow rfl h14 (G 1 (by simp)) (G 2 (by simp)) (G 3 (by simp))
     rw [if_neg h14]
     by_cases h19:op≤19
     ·rw [if_pos h19];exact Zk1 (y:=y) hb' hrow rfl ⟨by omega,h19⟩ (G 1 (by simp)) (G 2 (by simp))
     rw [if_neg h19]
     by_cases h22:op=22
     ·rw [if_pos h22];exact Zk4 (y:=y) hb' hrow rfl h22 (G 1 (by simp))
     ·rw [if_neg h22];exact Zk3 (y:=y) hb' hrow rfl ⟨by omega,h22⟩ (G 3 (by simp))
    ·have e:Zao vs ⟨5,op,tk,nm,vv,some ⟨b,off,none⟩,c,[y,z]⟩ q=false:=by
      unfold Zao;simp only [Zt,ZaE,if_neg h13];rw [if_pos (a3.2 h3)]
     rw [e];exact Zk0 (y:=y) hb' hrow (by omega) h13
   ·obtain ⟨y,rfl⟩:=ZaR hm;obtain ⟨b,off,x,rfl,hb,hx,hin,hrow⟩:=kes_row hp (k:=0) (by simp)
    obtain rfl:y=x:=by simpa using hx
    rw [Nat.zero_mul,Nat.add_zero] at hrow;have hb':=Nat.lt_of_lt_of_le hb hB;have P:=fun (i:Int) (hi:i=1∨i=2∨i=3)=>Lh (Zcg.of (Av:=Av) (cv:=cv) (hparts y (by simp)) i hi hr hl hin hB);have:=ZjG (o:=op) (t:=tk) (n:=nm) (v:=vv) (c:=c) (cv:=cv) hb' hrow hq (P 1 (by simp)) (P 2 (by simp)) (P 3 (by simp))
    have e:Zao vs ⟨6,op,tk,nm,vv,some ⟨b,off,none⟩,c,[y]⟩ q=(((tk:Int) == q) && (Zao vs y 1 || Zao vs y 2 || Zao vs y 3)):=by
     unfold Zao;simp only [Zt,ZaE,Zi1 _ _ hq]
     rfl
    rw [e];exact this
def ZnI (vs:List ZZ) (e:KE) (q:Int):Bool:=Zaa e && Zao vs e q
theorem ZfB (vs:List ZZ) (e:KE) (q:Int) (hq:q=1∨q=2∨q=3) (Av:Option Addr) (cv B:Nat) (w:World) (hr:Zo w B 2 Av vs.length (Zgc vs)) (hl:vs.length≤256) (hi:e.In w B) (hB:B≤w.heap.size) :
  Calls Tryz.prog 82 #[.slice Av vs.length cv,.agg e.cells,.int .u8 q] w (Zu (.bool (ZnI vs e q)) w):=by
 obtain ⟨W0,hW0⟩:∃ W,w.alloc (.cells e.cells 65)=W:=⟨_,rfl⟩
 have b0:Blk W0 w.heap.size 65 e.cells:=by rw [← hW0]; exact Blk.new w _ _
 have K0:Below w.heap.size w W0:=by rw [← hW0]; exact (Below.refl _ _).alloc (Nat.le_refl _) _
 have hr0:=hr.below (K0.mono hB);have hi0:=hi.below (K0.mono hB);have hB0:=Nat.le_trans hB K0.size;have HK0:=Lh K0;have HB0:=Lh b0;have HV:=Lh (Zmt e B W0 hi0 hB0);have HR:=Lh (show ZnI vs e q=(Zaa e && Zao vs e q) from rfl)
 cases hv:Zaa e with
 | false =>
   rw [hv] at HV HR;simp only [KE.cells] at hW0 HV b0 ⊢;obtain ⟨e0,e1,e2,e3,e4,e5⟩:=b0.c6;simp at e0 e1 e2 e3 e4 e5;clear b0 K0 hr0 hi0 hv hi hr HB0;generalize vs.length=nv at *;go_enter Tryz.func82,Tryz.ntmps82
   go_wp2_with (go_at_call 96; (with_reducible refine HV.out.mono ?_); rintro e1 w1 ⟨rfl,hb1⟩)
   go_ret;exact ⟨by rw [HR.out]; rfl,HK0.out.trans (hb1.mono HK0.out.size)⟩
 | true =>
   have HC:=Lh (fun (w1:World) (hb:Below W0.heap.size W0 w1)=>rFits vs e (Zdq hv) q hq Av cv B w1 (hr0.below (hb.mono hB0)) hl (hi0.below (hb.mono hB0)) (Nat.le_trans hB0 hb.size));rw [hv] at HV HR;generalize Zao vs e q=fb at *;generalize ZnI vs e q=R at *;simp only [KE.cells] at hW0 HV b0 HB0 HC ⊢;obtain ⟨e0,e1,e2,e3,e4,e5⟩:=b0.c6;simp at e0 e1 e2 e3 e4 e5;clear b0 K0 hr0 hi0 hv hi hr;generalize vs.length=nv at *;go_enter Tryz.func82,Tryz.ntmps82
   go_wp2_with (first
    | (go_at_call 96; (with_reducible refine HV.out.mono ?_); rintro e1 w1 ⟨rfl,hb1⟩
       have b1:=HB0.out.call hb1;obtain ⟨f0,f1,f2,f3,f4,f5⟩:=b1.c6;simp at f0 f1 f2 f3 f4 f5;have HB1:=Lh hb1
       clear hb1 b1)
    | (go_at_call 97; (with_reducible refine (HC.out _ HB1.out).mono ?_); rintro e2 w2 ⟨rfl,hb2⟩))
   go_ret;exact ⟨by rw [HR.out]; rfl,HK0.out.trans ((HB1.out.trans (hb2.mono HB1.out.size)).mono HK0.out.size)⟩
theorem ZgV (vs:List ZZ) (p:KPl) (q:Nat) (Av:Option Addr) (cv B:Nat) (w:World) (hr:Zo w B 2 Av vs.length (Zgc vs)) (hl:vs.length≤256) (hi:p.In w B) (hB:B≤w.heap.size) :
  Calls Tryz.prog 81 #[.slice Av vs.length cv,.agg p.cells,.int .u8 q] w (Zu (.bool (Zai vs p q)) w):=by
 obtain ⟨v,A,c,l⟩:=p
 obtain ⟨W0,hW0⟩:∃ W,w.alloc (.cells #[.int .i64 v,.slice A l.length c] 105)=W:=⟨_,rfl⟩
 have b0:Blk W0 w.heap.size 105 #[.int .i64 v,.slice A l.length c]:=by rw [← hW0]; exact Blk.new w _ _
 have K0:Below w.heap.size w W0:=by rw [← hW0]; exact (Below.refl _ _).alloc (Nat.le_refl _) _
 have hr0:=hr.below (K0.mono hB);have hi0:Zbm W0 B A l:=hi.2.below (K0.mono hB);have hB0:=Nat.le_trans hB K0.size;have HK0:=Lh K0;have HR:=Lh (Zht vs v A c l q);generalize Zai vs ⟨v,A,c,l⟩ q=R at *;have HV:=Lh (fun (h0:¬ v < 0) (h1:v < (vs.length:Int))=>Zb2 hr0 rfl (k:=v.toNat) (by omega));have HN:=Lh (fun (h1:¬ v < (vs.length:Int))=>List.getElem?_eq_none (l:=vs) (i:=v.toNat) (by omega));have HF:=Lh (fun (e:KE) (he:e.In W0 B)=>ZfB vs e 1 (by simp) Av cv B W0 hr0 hl he hB0);simp only [KPl.cells];obtain ⟨e0,e1⟩:=b0.c2;simp at e0 e1;clear b0 K0 hi hr hr0
 by_cases h0:v < 0
 ·have H0:=Lh h0;clear HV HN hi0 HF;generalize vs.length=nv at *;go_enter Tryz.func81,Tryz.ntmps81
  go_wp2
  go_ret;exact ⟨by refine Za rfl ?_; rw [HR.out,if_pos H0.out],HK0.out⟩
 have HR:=Lh (HR.out.trans (if_neg h0))
 by_cases h1:v < (vs.length:Int)
 ·obtain ⟨b',off',x,rfl,hb',hx,hm',d0,d1⟩:=HV.out h0 h1;have HX:=Lh hx;clear HV HN
  have h1n:¬ (vs.length:Int)≤v:=by omega
  clear hx hm'
  by_cases hk:x.kind=q
  ·subst hk
   by_cases hd:x.dim=0
   ·have HD:=Lh hd;rw [hd] at d1;clear hd HF
    obtain ⟨m,hm⟩:∃ m,l.length=m:=⟨_,rfl⟩
    have HM:=Lh hm;rw [hm] at e1 hW0 ⊢;clear hm hi0;generalize vs.length=nv at *;go_enter Tryz.func81,Tryz.ntmps81
    go_wp2
    go_ret;exact ⟨by refine Za rfl ?_; rw [HR.out,HX.out]; simp only [HD.out,HM.out]; rw [Bool.eq_iff_iff]; simp,HK0.out⟩
   ·have HD:=Lh hd
    by_cases hl1:l.length=1
    ·obtain ⟨e,rfl⟩:=ZaR hl1;obtain ⟨b,off,y,rfl,hb,hy,hin,c0,c1,c2,c3,c4,c5⟩:=Zba hi0 (k:=0) (by simp)
     obtain rfl:e=y:=by simpa using hy
     have HF:=Lh (HF.out e hin);simp only [KE.cells,List.length_singleton,Nat.zero_mul,Nat.add_zero] at HF hW0 e1 c0 c1 c2 c3 c4 c5 ⊢
     obtain ⟨fb,hfb⟩:∃ t,ZnI vs e 1=t:=⟨_,rfl⟩
     have HFB:=Lh (show Z6 vs e 1=fb from hfb);rw [hfb] at HF;clear hfb hy hin hi0 hl1;generalize vs.length=nv at *;go_enter Tryz.func81,Tryz.ntmps81
     go_wp2_with (go_at_call 82; (with_reducible refine HF.out.mono ?_); rintro e3 w3 ⟨rfl,hb3⟩)
     go_ret;exact ⟨by refine Za rfl ?_; rw [HR.out,HX.out]; simp [HD.out,ZgX,HFB.out],HK0.out.trans (hb3.mono HK0.out.size)⟩
    ·have HNo:=Lh (Zgw (vs:=vs) hl1);clear HF
     obtain ⟨m,hm⟩:∃ m,l.length=m:=⟨_,rfl⟩
     have hm1:((m:Int) == 1)=false:=by simp; omega
     rw [hm] at e1 hW0 ⊢;clear hm hi0 hl1;generalize vs.length=nv at *;go_enter Tryz.func81,Tryz.ntmps81
     go_wp2
     go_ret;exact ⟨by refine Za rfl ?_; rw [HR.out,HX.out]; simp only [if_neg HD.out,HNo.out,Bool.and_false],HK0.out⟩
  ·have hk2:((x.kind:Int) == (q:Int))=false:=by simp; omega
   have HKN:=Lh (show (x.kind == q)=false by simpa using hk);clear hk hi0 HF;generalize vs.length=nv at *;go_enter Tryz.func81,Tryz.ntmps81
   go_wp2
   go_ret;exact ⟨by refine Za rfl ?_; rw [HR.out,HX.out]; simp only [HKN.out,Bool.false_and],HK0.out⟩
 ·have HX:=Lh (HN.out h1)
  have h1n:(vs.length:Int)≤v:=by omega
  clear HV HN hi0 HF;generalize vs.length=nv at *;go_enter Tryz.func81,Tryz.ntmps81
  go_wp2
  go_ret;exact ⟨by refine Za rfl ?_; rw [HR.out,HX.out],HK0.out⟩
def KK.flat (k:KK):Array Value:=#[.slice k.Av k.vars.length k.cv,.slice k.Ac k.chans.length k.cc,.int .u8 k.root.kind,.int .i64 k.root.c,.int .i64 k.root.v,.int .u8 k.root.item,.slice k.root.At k.root.tos.length k.root.ct,.slice k.root.Ae k.root.e.length k.root.ce,
 .slice k.root.Ag k.root.g.length k.root.cg,.slice k.root.Al k.root.l.length k.root.cl,.slice k.Ap k.procs.length k.cp]
theorem Zj5 (vs:List ZZ) (nc:Nat) (c:Int) (item:Nat) (p:KPl):Zbg vs nc c item p=(decide (0≤c∧c < nc∧c≠1) && (decide (0 < c) || item == 1) && ZaT item && Zai vs p item):=by
 unfold Zbg ZS
 congr 1
 rw [Bool.and_right_comm]
 congr 1
 by_cases h:0≤c∧c < nc∧c≠1
 ·have e:decide (1 < c)=decide (0 < c):=by rw [decide_eq_decide]; omega
  rw [e]
 ·rw [decide_eq_false h]; rfl
theorem ZnO (k:KK) (c:Int) (item:Nat) (p:KPl) (B:Nat) (w:World) (hk:k.In w B) (ok:KOk k) (hi:p.In w B) (hB:B≤w.heap.size) :
  Calls Tryz.prog 83 #[.agg k.flat,.int .i64 c,.int .u8 item,.agg p.cells] w (Zu (.bool (Zbg k.vars k.chans.length c item p)) w):=by
 obtain ⟨W0,hW0⟩:∃ W,(w.alloc (.cells k.flat 34)).alloc (.cells p.cells 105)=W:=⟨_,rfl⟩
 obtain ⟨l1,l2,l3⟩:=Zf8 w k.flat p.cells 34 105;rw [hW0] at l1 l2 l3;have HK0:=Lh l1;have HPl:=Lh (ZgV k.vars p item k.Av k.cv B W0 (hk.1.2.1.below (l1.mono hB)) ok.nv (hi.below (l1.mono hB)) (Nat.le_trans hB l1.size));have HPr:=Lh (ZmE item W0);have HR:=Lh (Zj5 k.vars k.chans.length c item p);generalize Zbg k.vars k.chans.length c item p=R at *;generalize Zai k.vars p item=pb at *;simp only [KK.flat,KPl.cells] at hW0 l2 l3 HPl ⊢;obtain ⟨e0,e1⟩:=l2.c2;simp at e0 e1;obtain ⟨f0,f1⟩:=l3.c2;simp at f0 f1;clear l1 l2 l3 hk ok hi;generalize k.chans.length=nc at *
 by_cases h1:0≤c
 ·by_cases h2:c < (nc:Int)
  ·by_cases h3:c=1
   ·have HC:=Lh h3;subst h3;go_enter Tryz.func83,Tryz.ntmps83
    go_wp2
    go_ret;exact ⟨by refine Za rfl ?_; rw [HR.out]; simp,HK0.out⟩
   ·obtain ⟨d,hd⟩:∃ d:Bool,(decide (0 < c) || item == 1)=d:=⟨_,rfl⟩
    have HR2:Hid (R=(d && ZaT item && pb)):=Lh (by rw [HR.out,decide_eq_true ⟨h1,h2,h3⟩,hd]; rfl);clear HR
    cases d with
    | false =>
      have g1:¬ 0 < c:=by rintro h; simp [h] at hd
      have g2:((item:Int) == 1)=false:=by rw [decide_eq_false g1] at hd; simp at hd ⊢; omega
      clear hd;go_enter Tryz.func83,Tryz.ntmps83
      go_wp2
      go_ret;exact ⟨by refine Za rfl ?_; rw [HR2.out]; simp,HK0.out⟩
    | true =>
      have hg:0 < c∨¬ 0 < c∧((item:Int) == 1)=true:=by
       by_cases h:0 < c
       ·exact .inl h
       ·rw [decide_eq_false h] at hd; simp at hd; exact .inr ⟨h,by simp [hd]⟩
      clear hd;generalize ZaT item=pr at *
      rcases hg with g1 | ⟨g1,g2⟩ <;> cases pr
      all_goals
       go_enter Tryz.func83,Tryz.ntmps83
       go_wp2_with (first
        | (go_at_call 48; (with_reducible refine HPr.out.mono ?_); rintro e1 w1 ⟨rfl,rfl⟩)
        | (go_at_call 81; (with_reducible refine HPl.out.mono ?_); rintro e2 w2 ⟨rfl,hb2⟩))
       go_ret
       first
        | exact ⟨by refine Za rfl ?_; rw [HR2.out]; simp,HK0.out⟩
        | exact ⟨by refine Za rfl ?_; rw [HR2.out]; simp [h3],HK0.out.trans (hb2.mono HK0.out.size)⟩
  ·have HR2:Hid (R=false):=Lh (by rw [HR.out,decide_eq_false (by omega)]; rfl);go_enter Tryz.func83,Tryz.ntmps83
   go_wp2
   go_ret;exact ⟨by refine Za rfl ?_; rw [HR2.out],HK0.out⟩
 ·have HR2:Hid (R=false):=Lh (by rw [HR.out,decide_eq_false (by omega)]; rfl);go_enter Tryz.func83,Tryz.ntmps83
  go_wp2
  go_ret;exact ⟨by refine Za rfl ?_; rw [HR2.out],HK0.out⟩
theorem Zih (vs:List ZZ) (nc:Nat) (c:Int) (item:Nat) (e:KE):(ZS nc c item 0 && Z6 vs e item)=(decide (0 < c∧c < nc) && (decide (1 < c) || item == 1) && ZaT item && Z6 vs e item):=by
 unfold ZS
 congr 1
 rw [Bool.and_right_comm]
 congr 2
 rw [decide_eq_decide]; omega
theorem Zor (k:KK) (c:Int) (item:Nat) (e:KE) (B:Nat) (w:World) (hk:k.In w B) (ok:KOk k) (hi:e.In w B) (hB:B≤w.heap.size) :
  Calls Tryz.prog 84 #[.agg k.flat,.int .i64 c,.int .u8 item,.agg e.cells] w (Zu (.bool (ZS k.chans.length c item 0 && Z6 k.vars e item)) w):=by
 obtain ⟨W0,hW0⟩:∃ W,(w.alloc (.cells k.flat 34)).alloc (.cells e.cells 65)=W:=⟨_,rfl⟩
 obtain ⟨l1,l2,l3⟩:=Zf8 w k.flat e.cells 34 65;rw [hW0] at l1 l2 l3;have HK0:=Lh l1
 have HFt:=Lh (fun (hp:ZaT item=true)=>show Calls Tryz.prog 82 #[.slice k.Av k.vars.length k.cv,.agg e.cells,.int .u8 item] W0 (Zu (.bool (Z6 k.vars e item)) W0) from
  ZfB k.vars e item (by rcases Zbs hp with h | h | h <;> simp [h]) k.Av k.cv B W0 (hk.1.2.1.below (l1.mono hB)) ok.nv (hi.below (l1.mono hB)) (Nat.le_trans hB l1.size))
 have HPr:=Lh (ZmE item W0);have HR:=Lh (Zih k.vars k.chans.length c item e);generalize (ZS k.chans.length c item 0 && Z6 k.vars e item)=R at *;generalize Z6 k.vars e item=pb at *;simp only [KK.flat,KE.cells] at hW0 l2 l3 HFt ⊢;obtain ⟨q0,q1⟩:=l2.c2;simp at q0 q1;obtain ⟨f0,f1,f2,f3,f4,f5⟩:=l3.c6;simp at f0 f1 f2 f3 f4 f5;clear l1 l2 l3 hk ok hi;generalize k.chans.length=nc at *
 by_cases h1:0 < c
 ·by_cases h2:c < (nc:Int)
  ·obtain ⟨d,hd⟩:∃ d:Bool,(decide (1 < c) || item == 1)=d:=⟨_,rfl⟩
   have HR2:Hid (R=(d && ZaT item && pb)):=Lh (by rw [HR.out,decide_eq_true ⟨h1,h2⟩,hd]; rfl);clear HR
   cases d with
   | false =>
     have g1:¬ 1 < c:=by rintro h; simp [h] at hd
     have g2:((item:Int) == 1)=false:=by rw [decide_eq_false g1] at hd; simp at hd ⊢; omega
     clear hd;go_enter Tryz.func84,Tryz.ntmps84
     go_wp2
     go_ret;exact ⟨by refine Za rfl ?_; rw [HR2.out]; simp,HK0.out⟩
   | true =>
     have hg:1 < c∨¬ 1 < c∧((item:Int) == 1)=true:=by
      by_cases h:1 < c
      ·exact .inl h
      ·rw [decide_eq_false h] at hd; simp at hd; exact .inr ⟨h,by simp [hd]⟩
     clear hd
     cases hp:ZaT item with
     | false =>
       rw [hp] at HPr HR2;clear hp HFt
       rcases hg with g1 | ⟨g1,g2⟩
       all_goals
        go_enter Tryz.func84,Tryz.ntmps84
        go_wp2_with (first
         | (go_at_call 48; (with_reducible refine HPr.out.mono ?_); rintro e1 w1 ⟨rfl,rfl⟩))
        go_ret;exact ⟨by refine Za rfl ?_; rw [HR2.out]; simp,HK0.out⟩
     | true =>
       have HFx:=Lh (HFt.out hp);rw [hp] at HPr HR2;clear hp HFt
       rcases hg with g1 | ⟨g1,g2⟩
       all_goals
        go_enter Tryz.func84,Tryz.ntmps84
        go_wp2_with (first
         | (go_at_call 48; (with_reducible refine HPr.out.mono ?_); rintro e1 w1 ⟨rfl,rfl⟩)
         | (go_at_call 82; (with_reducible refine HFx.out.mono ?_); rintro e2 w2 ⟨rfl,hb2⟩))
        go_ret;exact ⟨by refine Za rfl ?_; rw [HR2.out]; simp,HK0.out.trans (hb2.mono HK0.out.size)⟩
  ·have HR2:Hid (R=false):=Lh (by rw [HR.out,decide_eq_false (by omega)]; rfl);go_enter Tryz.func84,Tryz.ntmps84
   go_wp2
   go_ret;exact ⟨by refine Za rfl ?_; rw [HR2.out],HK0.out⟩
 ·have HR2:Hid (R=false):=Lh (by rw [HR.out,decide_eq_false (by omega)]; rfl);go_enter Tryz.func84,Tryz.ntmps84
  go_wp2
  go_ret;exact ⟨by refine Za rfl ?_; rw [HR2.out],HK0.out⟩
section
attribute [local go_sem] Oper.semAt_some
theorem Zk9 {W W':World} {X:Nat→Prop} (h:Zl W.heap.size X W W') (hx:∀ k,X k→∃ t cs,Blk W k t cs):KeepsOthers W W' :=
 ⟨h.size,fun k o hk hc=>(h.block k (Array.getElem?_eq_some_iff.1 hk).1 fun hX=>by
  obtain ⟨t,cs,hb⟩:=hx k hX;unfold Blk at hb;rw [hk] at hb
  injection hb with hb
  subst hb
  cases hc).trans hk⟩
theorem Znd {W W':World} {X Y:Nat→Prop} (h:Zl W.heap.size X W W') (hx:∀ k,X k→Y k):Z0 Y W W' :=
 ⟨h.size,fun k cs t f hn hk=>(h.block k (Array.getElem?_eq_some_iff.1 hk).1 fun hX=>hn (hx k hX)).trans hk⟩
theorem ZnW {p:KP} {w:World} {B:Nat} (h:p.In w B):p.all (fun x=>x.In w B):=by
 induction p using KP.ind with
 | h p ihg ihl =>
   rw [KP.all_iff];exact ⟨h,fun g hg x hx=>ihg g hg x hx (h.guard hg hx),fun x hx=>ihl x hx (h.part hx)⟩
structure ChJ (go:Nat) (o0:List Bool) (S0 bw:Nat) (w:World) (us:List (KP×Nat)) (W:World):Prop where
 bel:Zl S0 (fun k=>k=bw∨k=go) w W
 bg:Blk W go 4 (ZaG (ZdC us o0))
theorem ZkI (p:KP) (vs:List ZZ) (nc bo go cpo B:Nat) (o0:List Bool) (w:World) (hok:p.all (fun x=>ZW vs nc x=true)) (hin:p.In w B) (hB:B≤go) (hn:nc≤64) (ho:o0.length=nc) (b1:Blk w bo 50 #[.slice (some ⟨go,0,none⟩) nc cpo]) (b2:Blk w go 4 (ZaG o0))
  (h1:(Zd p).par.length≤1000000) (h3:(Zd p).grp.length≤1000000) :
  Calls Tryz.prog 11 #[.agg p.cells,.func (.func 12) #[] #[.pointer (some ⟨bo,0,none⟩)]] w (Zkf go 4 (ZaG (ZdC (Zd p).uses o0)) w):=by
 have hob:p.all Zdn:=KP.all_imp (fun x hx=>Zd0 hx) p hok;have HOK:=Lh hok;have HOB:=Lh hob;have HB1:=Lh b1;have HB2:=Lh b2;have HIN:=Lh hin;have H1:=Lh h1;have H3:=Lh h3;have hgo:=b2.lt;have hbo:=b1.lt;clear hok hob b1 b2 hin h1 h3
 obtain ⟨W0,hW0⟩:∃ W0,((w.alloc (.cells p.cells 31)).alloc (.cells (Zeq bo).cells 69)).alloc (.cells #[.slice none 0 0,.slice none 0 0,.slice none 0 0] 57)=W0:=⟨_,rfl⟩
 have kB0:Below w.heap.size w W0:=by rw [← hW0]; exact (((Below.refl _ w).alloc (Nat.le_refl _) _).alloc (by simp) _).alloc (by simp; omega) _
 have c1:Blk W0 w.heap.size 31 p.cells:=by rw [← hW0]; exact ((Blk.new w _ _).alloc _).alloc _
 have c2:Blk W0 (w.heap.size+1) 69 (Zeq bo).cells:=by
  rw [← hW0]; have h:=(Blk.new (w.alloc (.cells p.cells 31)) 69 (Zeq bo).cells).alloc (.cells #[.slice none 0 0,.slice none 0 0,.slice none 0 0] 57); rwa [World.size_alloc] at h
 have c3:Blk W0 (w.heap.size+2) 57 #[.slice none 0 0,.slice none 0 0,.slice none 0 0]:=by
  rw [← hW0]; have h:=Blk.new ((w.alloc (.cells p.cells 31)).alloc (.cells (Zeq bo).cells 69)) 57 #[.slice none 0 0,.slice none 0 0,.slice none 0 0]; rwa [World.size_alloc,World.size_alloc] at h
 have hsz:W0.heap.size=w.heap.size+3:=by rw [← hW0]; simp
 have HK0:=Lh kB0;have HC1:=Lh c1;have HC2:=Lh c2;have HC3:=Lh c3;have HSZ:=Lh hsz;have HPR:=Lh (ZnK p (w.heap.size+1+1) W0);clear kB0 c1 c2 c3 hsz;simp only [UsL.cells,Zeq,KP.cells] at hW0 HPR ⊢;have x1:=HC1.out;simp only [KP.cells] at x1;have hpw:=x1.lt;obtain ⟨e0,e1,e2,e3,e4,e5,e6,e7⟩:=x1.c8;simp at e0 e1 e2 e3 e4 e5 e6 e7;clear x1;refine (callsIn_wide (n:=9)).1 ?_;refine callsIn_of_wp_marks Tryz.func11 rfl trivial ?_ rfl;refine wpIn_wide.2 ?_;simp only [Tryz.ntmps11,List.size_toArray,List.length_cons,List.length_nil,Nat.reduceAdd,Nat.reduceSub,Array.replicate_succ,Array.replicate_zero,List.push_toArray,List.append_toArray,List.nil_append,List.cons_append]
 go_wp2_with (go_at_call 14; (with_reducible refine HPR.out.mono ?_); rintro e1 w1 ⟨g0,g1,rfl,hg0,hg1,K1,G0,G1⟩)
 clear hW0 e0 e1 e2 e3 e4 e5 e6 e7 hpw
 obtain ⟨bw,hbwe⟩:∃ b,w.heap.size+1+1=b:=⟨_,rfl⟩
 rw [hbwe] at G0;have HBW:=Lh hbwe
 have hgb:go≠bw:=by omega
 have kW:Hid (Below w.heap.size w w1):=Lh (HK0.out.trans (K1.out.mono HK0.out.size));have bgo:Blk w1 go 4 (ZaG o0):=HB2.out.call kW.out;have bbo:Blk w1 bo 50 #[.slice (some ⟨go,0,none⟩) nc cpo]:=HB1.out.call kW.out
 have bpl:Blk w1 bw 57 #[.slice none 0 0,.slice none 0 0,.slice none 0 0]:=by rw [← hbwe]; exact HC3.out.call K1.out
 have bus:Blk w1 (w.heap.size+1) 69 (Zeq bo).cells:=HC2.out.call K1.out
 have hBS:B≤w.heap.size:=by omega
 have hpin:p.In w1 B:=HIN.out.below (kW.out.mono hBS);have hbwl:bw < w1.heap.size:=bpl.lt;have hgol:go < w1.heap.size:=bgo.lt
 have hD:∀ us W,ChJ go o0 w1.heap.size bw w1 us W→ZmS p B bw g0 g1 W:=fun us W h=>by
  refine ⟨hpin.below (h.bel.below (by omega) fun k hk=>by rcases hk with rfl | rfl <;> omega),h.bel.blk G0.out G0.out.lt fun hX=>?_,h.bel.blk G1.out G1.out.lt fun hX=>?_⟩
  ·rcases hX with e | e
   ·exact G0.out.ne_ bpl (by decide) e
   ·exact G0.out.ne_ bgo (by decide) e
  ·rcases hX with e | e
   ·exact G1.out.ne_ bpl (by decide) e
   ·exact G1.out.ne_ bgo (by decide) e
 have J0:ChJ go o0 w1.heap.size bw w1 [] w1:=⟨Zl.of (Below.refl _ _),bgo⟩
 have hB0:B≤w1.heap.size:=by omega
 have HT0:∀ us f,(∀ u∈us,u.2≠f)→(fun _ _=>0:List (KP×Nat)→Nat→Nat) us f=0:=fun _ _ _=>rfl
 refine wpIn_wide.1 (ZcL (F:=Fence.wide) (n:=9) rfl rfl (gf:=41) (lb:=#[.pointer (some ⟨g0,0,none⟩),.pointer (some ⟨g1,0,none⟩)]) rfl trivial (enters_of Tryz.func41 (by kernel_rfl) rfl)
  (ZkH p HOB.out g0 g1 B w1.heap.size bw 8 (fun _ _=>0) w1 hbwl (Nat.le_refl _) bpl (hD _ _ J0) hB0 HT0 H1.out H3.out) (Nat.le_refl _) (fun s a b h k=>h.keepC k) (Below.refl _ _) (fun _=>rfl)
  (ChJ go o0 w1.heap.size bw w1) ?deep hD J0 ?round ?done)
 case deep=>exact fun pre a b h k=>⟨h.bel.trans (k.imp fun _ e=>.inl e),k.blk h.bg hgol hgb⟩
 case round =>
  rintro l s x r W hi hat ⟨htree,hx2,hpre⟩ hxs hsW;have HX:=Lh hxs;simp only [Zpp,KP.cells]
  gi_wp2
  obtain ⟨WA,hWA⟩:∃ WA,W.alloc (.cells x.1.cells 31)=WA:=⟨_,rfl⟩
  have bx:Blk WA W.heap.size 31 x.1.cells:=by rw [← hWA]; exact Blk.new _ _ _
  have kA:Below W.heap.size W WA:=by rw [← hWA]; exact (Below.refl _ _).alloc (Nat.le_refl _) _
  have kAc:Z0 (XS w1.heap.size bw s) W WA:=by rw [← hWA]; exact Z0.alloc _ _ _
  have kAd:Z0 (fun _=>False) W WA:=by rw [← hWA]; exact Z0.alloc _ _ _
  simp only [KP.cells] at hWA;rw [hWA];clear hWA;refine ⟨kAc,Zc9 kA,?_⟩;clear kAc;rintro W2 hgr hl0 hl1 hk2
  have hSW:w1.heap.size≤W.heap.size:=by omega
  have kE:Below w1.heap.size W W2:=(kA.mono hSW).trans ⟨hgr.os,hgr.tape,hgr.output,hgr.size,fun k hk=>hgr.block k (by have:=kA.size; omega) (fun e=>by injection e with e; omega)⟩
  have hi2:ChJ go o0 w1.heap.size bw w1 s.pl.uses W2:=⟨hi.bel.trans (Zl.of kE),hi.bg.below kE hgol⟩
  have hat2:ZH w1.heap.size bw (fun _ _=>0) s W2:=hat.keepC (kAd.trans hk2);have bx2:Blk W2 W.heap.size 31 x.1.cells:=Zb8 hk2 (fun h=>h) bx
  have hmem:x∈(Zd p).uses:=by rw [hxs]; simp
  have hxc:ZW vs nc x.1=true:=ZaS HOK.out x hmem
  have hstay:∀ {g:Nat} {t:TypeId} {cs:Array Value},Blk w1 g t cs→t≠57→t≠4→Blk W2 g t cs:=fun hg n1 n2=>hi2.bel.blk hg hg.lt fun hX=>by
   rcases hX with e | e
   ·exact hg.ne_ bpl n1 e
   ·exact hg.ne_ bgo n2 e
  have bu2:=hstay bus (by decide) (by decide);have bo2:=hstay bbo (by decide) (by decide);have hxin:x.1.In W2 B:=ZaS (ZnW (hD _ _ hi2).1) x hmem;have hus:=ZnA x.1 vs nc bo go cpo (ZdC s.pl.uses o0) W2 hxc hn (by rw [ZfF]; exact ho) bo2 hi2.bg;have hgo2:go < W2.heap.size:=hi2.bg.lt;have hc:=ZiM x.1 (Zeq bo) _ W2.heap.size B _ (evP x.1) [] [] W2 hus (fun W' hW=>hxin.below (hW.below (by have:=hi2.bel.size; omega) fun k hk=>by subst hk; omega)) (by have:=hi2.bel.size; omega) ⟨Zl.of (Below.refl _ _),hi2.bg⟩ (by simp);have HC:=Lh hc;have HI2:=Lh hi2;have HA2:=Lh hat2;have HX2:=Lh hx2;simp only [UsL.cells,Zeq] at bu2 HC;simp only [KP.cells] at bx2 HC;have hlu:=bu2.lt;have hlx:=bx2.lt;obtain ⟨c0,c1,c2⟩:=bu2.c3;simp at c0 c1 c2;obtain ⟨e0,e1,e2,e3,e4,e5,e6,e7⟩:=bx2.c8;simp at e0 e1 e2 e3 e4 e5 e6 e7;clear bx kA kAd hgr hk2 kE hi hat hi2 hat2 bx2 hxc bu2 bo2 hxin hus hc hmem hx2
  gi_wp2_with (refine ⟨trivial,?_⟩; gi_at_call 20; refine (callsIn_wide.2 HC.out).mono ?_; rintro e1 w3 ⟨rfl,hI3,hK3⟩)
  refine ⟨Znd hI3.bel fun k hk=>.inl ⟨by subst hk; exact hgol,by subst hk; exact hgb⟩,Zk9 hI3.bel fun k hk=>⟨_,_,by subst hk; exact HI2.out.bg⟩,⟨HI2.out.bel.trans ((hI3.bel.mono HI2.out.bel.size).imp fun k hk=>.inr hk),?_⟩,?_⟩
  ·rw [ZjM];have:=hI3.bg;rw [List.nil_append,Zje] at this;exact this
  ·have h4:=HA2.out.keepE hI3.bel fun k hk=>by
    subst hk;exact ⟨hgb,fun hr=>by have:=HA2.out.row_lt hr HA2.out.gp.len; omega⟩
   exact ⟨h4.lo,h4.hi,h4.blk,h4.fr,h4.tm,h4.gp,fun u hu=>by
    rcases List.mem_append.1 hu with h | h
    ·exact h4.fl u h
    ·simp at h; subst h; exact HX2.out⟩
 case done =>
  rintro Dn s W hi hat hs hf hK hDn
  go_wp2
  have hU:∀ o,Upd go 4 (ZaG (ZdC (Zd p).uses o0)) w (W.putObj Dn o):=fun o=>by
   have hbw2:=HBW.out;have hk:=kW.out;have hsz2:=hk.size;refine ⟨⟨hi.bel.os.trans hk.os,hi.bel.tape.trans hk.tape,hi.bel.output.trans hk.output,?_,fun k hk1 hk2=>?_⟩,(World.putObj_heap_other (by omega)).trans hi.bg⟩
   ·have:=hi.bel.size
    simp [World.putObj]; omega
   ·refine (World.putObj_heap_other (by omega)).trans ((hi.bel.block k (by omega) ?_).trans (hk.block k hk1));rintro (e | e)
    ·omega
    ·exact hk2 e
  refine ⟨by simp,.inl ⟨_,_,rfl,run_takeDeferred hK,?_⟩⟩;exact ⟨_,results_none rfl _ _ _,rfl,hU _⟩
end
def Zeo (n j:Nat) (x y:Int):List Int:=List.replicate j x++List.replicate (n - j) y
theorem ZhR {n j:Nat} (h:j≤n) (x y:Int):(Zeo n j x y).length=n:=by simp [Zeo]; omega
theorem ZhQ {n j:Nat} (h:j < n) (x y:Int):(Zeo n j x y).set j x=Zeo n (j+1) x y:=by
 unfold Zeo
 obtain ⟨m,hm⟩:∃ m,n - j=m+1:=⟨n - j - 1,by omega⟩
 rw [hm,show n - (j+1)=m by omega,List.set_append_right _ _ (by simp),List.length_replicate,Nat.sub_self,List.replicate_succ,List.set_cons_zero,List.replicate_succ',List.append_assoc]
 rfl
theorem ZhS (n:Nat) (x y:Int):Zeo n n x y=List.replicate n x:=by simp [Zeo]
theorem ZgK (n:Nat) (x y:Int):Zeo n 0 x y=List.replicate n y:=by simp [Zeo]
theorem Zi0 (n:Nat):madeCells (Value.cells (.int .i64 0)) n=ZV (List.replicate n 0):=by
 have e:(Value.int .i64 0).cells=#[.int .i64 0]:=rfl;rw [e];refine Array.ext (by simp [madeCells,ZV,ZO]) fun i h1 h2=>?_
 simp [madeCells,Nat.mod_one,ZV,ZO]
def ZqC (n:Nat) (w:World) (e:Ending) (w':World):Prop:=∃ g,e = .returned (.slice (some ⟨g,0,none⟩) n n)∧w.heap.size≤g∧Hid (Below w.heap.size w w')∧Hid (Blk w' g 3 (ZV (List.replicate n (-1))))
theorem Zpy (n:Nat) (hn:n≤256) (w:World):Calls Tryz.prog 13 #[.int .i64 n] w (ZqC n w):=by
 obtain ⟨i0,hi0,hz0,hz1,hz2⟩:=info_parts Zcu;have hmk:=ZcD (P:=Tryz.prog) 32 3 i0 _ Tryz.underlying32 hi0 hz0 .i64 .i64 n n (Nat.le_refl _) (by rw [hz2]; omega) (by omega);rw [hz1,Nat.mul_one,Zi0] at hmk
 obtain ⟨W1,hW1⟩:∃ W1,w.alloc (.cells (ZV (List.replicate n 0)) 3)=W1:=⟨_,rfl⟩
 have HB1:Hid (Below w.heap.size w W1∧Blk W1 w.heap.size 3 (ZV (Zeo n 0 (-1) 0))):=Lh (by rw [← hW1,ZgK]; exact ⟨(Below.refl _ _).alloc (Nat.le_refl _) _,Blk.new _ _ _⟩);go_enter Tryz.func13,Tryz.ntmps13
 go_wp2_with fail
 go_loopw [9] (fun i wr=>∃ j:Nat,j≤n∧i = .int .i64 j∧Hid (Below w.heap.size w wr∧Blk wr w.heap.size 3 (ZV (Zeo n j (-1) 0)))) (fun i _=>n - (intOf i).toNat)
 case atStart=>exact ⟨0,Nat.zero_le _,rfl,HB1⟩
 case round =>
  clear HB1 hW1 hmk;obtain ⟨j,hj,rfl,HB⟩:=hrel
  by_cases hlt:j < n
  ·have hltI:(j:Int) < n:=by omega
   have b:=HB.out.2;have d0:=b.cell j;rw [ZaL (by rw [ZhR hj]; exact hlt)] at d0;have f0:=b.frozen j;have hlb:=b.lt;generalize List.getD _ _ _=dv at d0;clear b
   go_wp2_with fail
   go_roundw
   case rel=>exact ⟨j+1,by omega,by go_num,Lh ⟨HB.out.1.setCell (Nat.le_refl _) _,by rw [← ZhQ hlt,← Zct]; exact HB.out.2.set_ j _⟩⟩
   case measure=>simp [intOf]; omega
  ·have hltI:¬ (j:Int) < n:=by omega
   obtain rfl:n=j:=by omega
   go_wp2_with fail
   go_ret;exact ⟨w.heap.size,rfl,Nat.le_refl _,Lh HB.out.1,Lh (by have:=HB.out.2; rw [ZhS] at this; exact this)⟩
section
def Za6 (q:Int×List FrL) (f:Nat):Int×List FrL :=
 let x:=q.2.getD f default
 let d:=wrap64 (q.1+x.above)
 let b:=wrap64 (d+x.below)
 let fr:=q.2.set f ⟨x.parent,d,x.above,x.below,x.temp⟩
 let y:=fr.getD x.parent.toNat default
 (b,fr.set x.parent.toNat ⟨y.parent,y.down,y.above,max y.below b,y.temp⟩)
def Zbc (fr:List FrL) (g:List Nat):List FrL:=(g.foldl Za6 (5,fr)).2
def frJ (par:List Int) (nx tp:Nat→Nat) (j:Nat):List FrL:=tb par.length fun f=>if f < j then ⟨par.getD f (-1),0,((nx f+tp f:Nat):Int),5,(nx f:Nat)⟩ else ⟨par.getD f (-1),0,0,5,0⟩
theorem Znl (par:List Int) (nx tp:Nat→Nat):frJ par nx tp 0=Zan par:=by
 unfold frJ Zan;refine (Zgq (by rw [List.length_map]) fun k hk=>?_).symm;rw [List.getElem?_map,List.getElem?_eq_getElem hk,List.getD_eq_getElem?_getD,List.getElem?_eq_getElem hk]
 rfl
theorem Ziu (par:List Int) (nx tp:Nat→Nat) (j:Nat):(frJ par nx tp j).length=par.length:=Zch _ _
theorem Zp5 (par:List Int) (nx tp:Nat→Nat) {j:Nat} (h:j < par.length):(frJ par nx tp j)[j]? = some ⟨par.getD j (-1),0,0,5,0⟩:=by
 unfold frJ;rw [Zc1 _ h,if_neg (Nat.lt_irrefl j)]
theorem ZoX (par:List Int) (nx tp:Nat→Nat) {j:Nat} (h:j < par.length):(frJ par nx tp j).set j ⟨par.getD j (-1),0,((nx j+tp j:Nat):Int),5,(nx j:Nat)⟩=frJ par nx tp (j+1):=by
 unfold frJ;rw [Zd7];refine ZK fun k _=>?_
 by_cases hk:k=j
 ·subst hk; rw [if_pos rfl,if_pos (by omega)]
 ·rw [if_neg hk]
  by_cases h2:k < j
  ·rw [if_pos h2,if_pos (by omega)]
  ·rw [if_neg h2,if_neg (by omega)]
structure ZdL where
 fr:List FrL
 vat:List Int
 vin:List Int
 cat:List Int
 cin:List Int
def Zbo (vin:List Int) (vs:List ZZ) (f:Nat):Nat:=2+ZaN vin (Zz vs) (f:Int) vs.length
def ZaA (vin cin:List Int) (vs:List ZZ) (nc f:Nat):Nat:=Zbo vin vs f+ZaN cin (List.replicate nc 1) (f:Int) nc
def Za2 (vin:List Int) (vs:List ZZ):List Int:=Zbq (fun _=>2) vin (Zz vs)
def Zaq (vin cin:List Int) (vs:List ZZ) (nc:Nat):List Int:=Zbq (fun f=>2+ZaN vin (Zz vs) f vs.length) cin (List.replicate nc 1)
def Zdf (tp:Nat→Nat) (vin cin:List Int) (vs:List ZZ) (nc:Nat) (w:Zr):List FrL:=w.grp.foldl Zbc (frJ w.par (ZaA vin cin vs nc) tp w.par.length)
theorem Zi7:∀ (l:List FrL) (k i:Nat) (u:Value) (x x':FrL),l[k]? = some x→i < 5→x'.cells=x.cells.set i u→(Zem l).set (k * 5+i) u=Zem (l.set k x')
 | [],k,i,u,x,x',h,_,_=>by simp at h
 | y :: l,0,i,u,x,x',h,hi,hx=>by
   simp at h; subst h
   show (y.cells++Zem l).set _ u=x'.cells++Zem l
   rw [Nat.zero_mul,Nat.zero_add,List.set_append_left _ _ (by rw [FrL.cells_len]; exact hi),hx]
 | y :: l,k+1,i,u,x,x',h,hi,hx=>by
   show (y.cells++Zem l).set _ u=y.cells++Zem (l.set k x')
   rw [List.set_append_right _ _ (by rw [FrL.cells_len,Nat.succ_mul]; omega),FrL.cells_len,show (k+1) * 5+i - 5=k * 5+i by rw [Nat.succ_mul]; omega,Zi7 l k i u x x' (by simpa using h) hi hx]
def Zfg (w:World) (g:Nat) (l:List FrL):Prop:=∃ cur,Blk w g 74 cur∧∀ (i:Nat) (u:Value),(Zem l)[i]? = some u→cur[i]? = some u
theorem Zfg.store {w:World} {g:Nat} {l:List FrL} (h:Zfg w g l) {k i:Nat} {u:Value} {x x':FrL} (hk:l[k]? = some x) (hi:i < 5) (hx:x'.cells=x.cells.set i u):Zfg (w.setCell ⟨g,k * 5+i,none⟩ u) g (l.set k x'):=by
 obtain ⟨cur,hb,hc⟩:=h;refine ⟨_,hb.set_ (k * 5+i) u,fun j v hj=>?_⟩;rw [← Zi7 l k i u x x' hk hi hx,List.getElem?_set] at hj;rw [Array.getElem?_setIfInBounds]
 split at hj
 ·rename_i hij;rw [if_pos hij]
  split at hj
  ·rename_i hl;have:=hc _ _ (List.getElem?_eq_getElem hl);rw [if_pos (Array.getElem?_eq_some_iff.1 this).1];exact hj
  ·cases hj
 ·rename_i hij;rw [if_neg hij];exact hc j v hj
theorem Zfg.cell {w:World} {g:Nat} {l:List FrL} (h:Zfg w g l) {k:Nat} {x:FrL} (hk:l[k]? = some x):w.cell? ⟨g,k * 5,none⟩=some (.int .i64 x.parent)∧w.cell? ⟨g,k * 5+1,none⟩=some (.int .i64 x.down)∧w.cell? ⟨g,k * 5+2,none⟩=some (.int .i64 x.above)∧w.cell? ⟨g,k * 5+3,none⟩=some (.int .i64 x.below)∧w.cell? ⟨g,k * 5+4,none⟩=some (.int .i64 x.temp):=by
 obtain ⟨cur,hb,hc⟩:=h
 have key:∀ i v,i < 5→x.cells[i]? = some v→w.cell? ⟨g,k * 5+i,none⟩=some v:=fun i v hi hv=>by
  rw [hb.cell];exact hc _ _ ((ZdZ FrL.cells_len hk i hi).trans hv)
 exact ⟨key 0 _ (by decide) rfl,key 1 _ (by decide) rfl,key 2 _ (by decide) rfl,key 3 _ (by decide) rfl,key 4 _ (by decide) rfl⟩
theorem Zfg.lt {w:World} {g:Nat} {l:List FrL} (h:Zfg w g l):g < w.heap.size:=by obtain ⟨cur,hb,hc⟩:=h; exact hb.lt
theorem Zfg.frozen {w:World} {g:Nat} {l:List FrL} (h:Zfg w g l) (i:Nat):w.frozen? ⟨g,i,none⟩=false:=by obtain ⟨cur,hb,hc⟩:=h; exact hb.frozen i
theorem Zfg.same {w w':World} {g:Nat} {l:List FrL} (h:Zfg w g l) (he:w'.heap[g]? = w.heap[g]?):Zfg w' g l:=by obtain ⟨cur,hb,hc⟩:=h; exact ⟨cur,he.trans hb,hc⟩
structure LyS (W:World) (gf g1 g3:Nat) (kc:Array Value) (fr:List FrL) (nx a1 a3:List Int) (wr:World):Prop where
 bel:Zl W.heap.size (fun k=>k=gf∨k=g1∨k=g3) W wr
 kb:Blk wr W.heap.size 34 kc
 nx:Blk wr (W.heap.size+1) 3 (ZV nx)
 fr:Zfg wr gf fr
 a1:Blk wr g1 3 (ZV a1)
 a3:Blk wr g3 3 (ZV a3)
section
variable {W wr:World} {gf g1 g3:Nat} {kc:Array Value} {fr:List FrL} {nx a1 a3:List Int}
theorem Zk {w:World} {p:Addr} {v:Value} {g:Nat} {t:TypeId} {cs:Array Value} (h:Blk w g t cs) (hn:g≠p.block):Blk (w.setCell p v) g t cs:=(Below.heap_setCell w p v g hn).trans h
theorem LyS.drew (h:LyS W gf g1 g3 kc fr nx a1 a3 wr):LyS W gf g1 g3 kc fr nx a1 a3 wr.drew:=⟨⟨h.bel.os,h.bel.tape,h.bel.output,h.bel.size,h.bel.block⟩,h.kb,h.nx,h.fr,h.a1,h.a3⟩
theorem Zl.store {B:Nat} {X:Nat→Prop} {a b:World} (h:Zl B X a b) {p:Addr} (v:Value) (hp:X p.block∨B≤p.block):Zl B X a (b.setCell p v) :=
 ⟨h.os,h.tape,h.output,by simpa using h.size,fun k hk hx=>(Below.heap_setCell b p v k fun e=>by
  rcases hp with hp | hp
  ·exact hx (e ▸ hp)
  ·omega).trans (h.block k hk hx)⟩
theorem LyS.setNx (h:LyS W gf g1 g3 kc fr nx a1 a3 wr) (hg:gf < W.heap.size∧g1 < W.heap.size∧g3 < W.heap.size) (i:Nat) (v:Int):LyS W gf g1 g3 kc fr (nx.set i v) a1 a3 (wr.setCell ⟨W.heap.size+1,i,none⟩ (.int .i64 v)) :=
 ⟨h.bel.store _ (.inr (Nat.le_succ _)),Zk h.kb (by show W.heap.size≠W.heap.size+1; omega),by rw [← Zct]; exact h.nx.set_ i _,h.fr.same (Below.heap_setCell _ _ _ _ (by show gf≠W.heap.size+1; omega)),
  Zk h.a1 (by show g1≠W.heap.size+1; omega),Zk h.a3 (by show g3≠W.heap.size+1; omega)⟩
theorem LyS.setA1 (h:LyS W gf g1 g3 kc fr nx a1 a3 wr) (hg:gf < W.heap.size∧g1 < W.heap.size∧g3 < W.heap.size) (hn:g1≠gf∧g1≠g3) (i:Nat) (v:Int):LyS W gf g1 g3 kc fr nx (a1.set i v) a3 (wr.setCell ⟨g1,i,none⟩ (.int .i64 v)) :=
 ⟨h.bel.store _ (.inl (.inr (.inl rfl))),Zk h.kb (by show W.heap.size≠g1; omega),Zk h.nx (by show W.heap.size+1≠g1; omega),h.fr.same (Below.heap_setCell _ _ _ _ (by show gf≠g1; omega)),
  by rw [← Zct]; exact h.a1.set_ i _,Zk h.a3 (by show g3≠g1; omega)⟩
theorem LyS.setA3 (h:LyS W gf g1 g3 kc fr nx a1 a3 wr) (hg:gf < W.heap.size∧g1 < W.heap.size∧g3 < W.heap.size) (hn:g3≠gf∧g1≠g3) (i:Nat) (v:Int):LyS W gf g1 g3 kc fr nx a1 (a3.set i v) (wr.setCell ⟨g3,i,none⟩ (.int .i64 v)) :=
 ⟨h.bel.store _ (.inl (.inr (.inr rfl))),Zk h.kb (by show W.heap.size≠g3; omega),Zk h.nx (by show W.heap.size+1≠g3; omega),h.fr.same (Below.heap_setCell _ _ _ _ (by show gf≠g3; omega)),
  Zk h.a1 (by show g1≠g3; omega),by rw [← Zct]; exact h.a3.set_ i _⟩
theorem LyS.setFr (h:LyS W gf g1 g3 kc fr nx a1 a3 wr) (hg:gf < W.heap.size∧g1 < W.heap.size∧g3 < W.heap.size) (hn:g1≠gf∧g3≠gf) {k i:Nat} {u:Value} {x x':FrL} (hk:fr[k]? = some x) (hi:i < 5) (hx:x'.cells=x.cells.set i u):LyS W gf g1 g3 kc (fr.set k x') nx a1 a3 (wr.setCell ⟨gf,k * 5+i,none⟩ u) :=
 ⟨h.bel.store _ (.inl (.inl rfl)),Zk h.kb (by show W.heap.size≠gf; omega),Zk h.nx (by show W.heap.size+1≠gf; omega),h.fr.store hk hi hx,
  Zk h.a1 hn.1,Zk h.a3 hn.2⟩
end
end
end Go.Proofs.YtjndhfcfcedheaaGreatDoor
