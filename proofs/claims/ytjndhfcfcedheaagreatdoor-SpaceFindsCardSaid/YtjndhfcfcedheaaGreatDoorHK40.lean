/- Texts that belong together: KT KV KW. -/
import Derived.Test.YtjndhfcfcedheaaGreatDoorHK37
import Derived.Test.YtjndhfcfcedheaaGreatDoorHK38
import Derived.Test.YtjndhfcfcedheaaGreatDoorHK39
import Derived.Test.YtjndhfcfcedheaaGreatDoorHK28
import Derived.Test.YtjndhfcfcedheaaGreatDoorHK4
set_option linter.unusedVariables false
set_option linter.unusedSimpArgs false
set_option maxRecDepth 100000
set_option maxHeartbeats 16000000
namespace Go.Proofs.YtjndhfcfcedheaaGreatDoor
open Go.RowKit
theorem ZpV (k:KK) (n:Int) (g:KG) (choice:Bool) (B bc:Nat) (w:World) (hc:Chk w B bc k n) (hi:g.One w B) :
  Calls Tryz.prog 95 #[.pointer (some ⟨bc,0,none⟩),.agg g.flat,.bool choice] w (Zu (.bool (ZR k.vars k.chans.length choice g)) w):=by
 obtain ⟨W0,hW0⟩:∃ W,w.alloc (.cells g.flat 109)=W:=⟨_,rfl⟩
 have b0:Blk W0 w.heap.size 109 g.flat:=by rw [← hW0]; exact Blk.new w _ _
 have K0:Below w.heap.size w W0:=by rw [← hW0]; exact (Below.refl _ _).alloc (Nat.le_refl _) _
 have hc0:=hc.call K0;have hi0:=hi.below (K0.mono hc.leB);have HC:=Lh (ZnV k n g.cond B bc W0 hc0 hi0.2.1);have HT:=Lh (fun (w1:World) (hb:Below W0.heap.size W0 w1)=>ZlD k n g.time B bc w1 (hc0.call hb) (hi0.2.2.2.1.below (hb.mono hc0.leB)));have HI:=Lh (fun (w1:World) (hb:Below W0.heap.size W0 w1)=>ZnU k n g.c g.item g.dst B bc w1 (hc0.call hb) hi0.1.2.1 (hi0.2.2.1.below (hb.mono hc0.leB)));have HPl:=Lh (fun (i t:Bool) (w1:World)=>ZpP g i t w1)
 have hR:ZR k.vars k.chans.length choice g=(decide (g.body.length=1) && Z6 k.vars g.cond 3 &&
  match g.kind with
  | 1=>choice && ZdW g.time && ZhD g
  | 2=>!choice && ZdW g.time && ZhD g
  | 3=>!choice && ZdW g.time && Zbg k.vars k.chans.length g.c g.item g.dst
  | 4=>!choice && ZhD g && Z6 k.vars g.time 1
  | _=>false):=rfl
 rw [hR];generalize Z6 k.vars g.time 1=fT at *;generalize Z6 k.vars g.cond 3=fC at *;generalize Zbg k.vars k.chans.length g.c g.item g.dst=fI at *;generalize ZdW g.time=nT at *;generalize ZhD g=nI at *;obtain ⟨gk,⟨k1,o1,t1,n1,v1,A1,c1,l1⟩,gc,gi,⟨pv,pA,pc,pl⟩,⟨k2,o2,t2,n2,v2,A2,c2,l2⟩,Ab,cb,body⟩:=g;simp only [KG.flat,KE.cells,KPl.cells] at hW0 b0 HC HT HI HPl ⊢;generalize body.length=mb at *
 by_cases hm:mb=1
 ·subst hm;simp only [decide_true,Bool.true_and]
  cases fC with
  | false =>
    rw [Bool.false_and];exact Zni choice hW0 HC
  | true =>
    rw [Bool.true_and]
    cases choice with
    | true =>
      by_cases h1:gk=1
      ·have:=Zlw hW0 HC HPl h1;subst h1
       simpa [Bool.and_comm] using this
      ·have:=Zlx hW0 HC h1
       split
       all_goals first
        | exact absurd rfl h1
        | exact this
    | false =>
      by_cases h1:gk=1
      ·have:=ZlB hW0 HC h1;subst h1;exact this
      by_cases h2:gk=2
      ·have:=ZlA hW0 HC HPl h2;subst h2
       simpa [Bool.and_comm] using this
      by_cases h3:gk=3
      ·subst h3
       cases nT with
       | false=>exact ZjZ hW0 HC HPl rfl
       | true=>exact Zlz hW0 HC HPl HI rfl
      by_cases h4:gk=4
      ·subst h4
       cases nI with
       | false=>exact ZjY hW0 HC HPl rfl
       | true=>exact Zly hW0 HC HPl HT rfl
      have:=ZlC hW0 HC ⟨h1,h2,h3,h4⟩
      split
      all_goals first
       | (exfalso; omega)
       | exact this
 ·have hm1:((mb:Int) == 1)=false:=by simp; omega
  have HK0:=Lh K0;rw [show decide (mb=1)=false by simp [hm],Bool.false_and,Bool.false_and];have e0:=b0.cell 0;have e1:=b0.cell 1;have e2:=b0.cell 2;have e3:=b0.cell 3;have e4:=b0.cell 4;have e5:=b0.cell 5;have e6:=b0.cell 6;have e7:=b0.cell 7;have e8:=b0.cell 8;have e9:=b0.cell 9;have e10:=b0.cell 10;have e11:=b0.cell 11;have e12:=b0.cell 12;have e13:=b0.cell 13;have e14:=b0.cell 14;have e15:=b0.cell 15;have e16:=b0.cell 16;have e17:=b0.cell 17;simp at e0 e1 e2 e3 e4 e5 e6 e7 e8 e9 e10 e11 e12 e13 e14 e15 e16 e17;clear hm b0 K0 hc0 hi0 hi hc hR HC HT HI HPl;go_enter Tryz.func95,Tryz.ntmps95
  go_wp2
  go_ret;exact ⟨rfl,HK0.out⟩
def Zar (p:KP) (ch v:Bool) (a0 a1 b0 b1 c0 c1 d0 d1:Int):Bool:=Zac p.c p.v p.item p.tos.length p.e.length p.g.length p.l.length ch v a0 a1 b0 b1 c0 c1 d0 d1
theorem ZbW {p:KP} {ch v:Bool} {a0 a1 b0 b1 c0 c1 d0 d1:Int} (h:Zar p ch v a0 a1 b0 b1 c0 c1 d0 d1=true) :
  a0≤p.tos.length∧p.tos.length≤a1∧b0≤p.e.length∧p.e.length≤b1∧c0≤p.g.length∧p.g.length≤c1∧d0≤p.l.length∧p.l.length≤d1:=by
 simp only [Zar,Zac,inI,Bool.and_eq_true,decide_eq_true_eq] at h
 omega
theorem Za1 (p:KP) (a0 a1 b0 b1 c0 c1 d0 d1:Int) (w:World):Calls Tryz.prog 88 #[.agg p.cells,.bool false,.bool false,.agg #[.int .i64 a0,.int .i64 a1],.agg #[.int .i64 b0,.int .i64 b1],.agg #[.int .i64 c0,.int .i64 c1],.agg #[.int .i64 d0,.int .i64 d1]] w
  (Zu (.bool (Zar p false false a0 a1 b0 b1 c0 c1 d0 d1)) w):=Zlr p.kind p.c p.v p.item p.At p.Ae p.Ag p.Al _ _ _ _ _ _ _ _ a0 a1 b0 b1 c0 c1 d0 d1 w
theorem ZjV (p:KP) (a0 a1 b0 b1 c0 c1 d0 d1:Int) (w:World):Calls Tryz.prog 88 #[.agg p.cells,.bool false,.bool true,.agg #[.int .i64 a0,.int .i64 a1],.agg #[.int .i64 b0,.int .i64 b1],.agg #[.int .i64 c0,.int .i64 c1],.agg #[.int .i64 d0,.int .i64 d1]] w
  (Zu (.bool (Zar p false true a0 a1 b0 b1 c0 c1 d0 d1)) w):=Zlq p.kind p.c p.v p.item p.At p.Ae p.Ag p.Al _ _ _ _ _ _ _ _ a0 a1 b0 b1 c0 c1 d0 d1 w
theorem ZgG (p:KP) (a0 a1 b0 b1 c0 c1 d0 d1:Int) (w:World):Calls Tryz.prog 88 #[.agg p.cells,.bool true,.bool false,.agg #[.int .i64 a0,.int .i64 a1],.agg #[.int .i64 b0,.int .i64 b1],.agg #[.int .i64 c0,.int .i64 c1],.agg #[.int .i64 d0,.int .i64 d1]] w
  (Zu (.bool (Zar p true false a0 a1 b0 b1 c0 c1 d0 d1)) w):=Zlp p.kind p.c p.v p.item p.At p.Ae p.Ag p.Al _ _ _ _ _ _ _ _ a0 a1 b0 b1 c0 c1 d0 d1 w
theorem ZhL (k:KK) (n:Int) (p:KP) (B bc:Nat) (w:World) (hc:Chk w B bc k n) (hi:p.One w B) :
  Calls Tryz.prog 66 #[.pointer (some ⟨bc,0,none⟩),.agg p.cells] w (Zu (.bool (Zar p false false 0 0 0 0 0 0 0 0)) w):=by
 obtain ⟨W0,hW0⟩:∃ W,w.alloc (.cells p.cells 31)=W:=⟨_,rfl⟩
 have b0:Blk W0 w.heap.size 31 p.cells:=by rw [← hW0]; exact Blk.new w _ _
 have K0:Below w.heap.size w W0:=by rw [← hW0]; exact (Below.refl _ _).alloc (Nat.le_refl _) _
 have hc0:=hc.call K0;have hi0:=hi.below (K0.mono hc.leB);have HK0:=Lh K0;have HB0:=Lh b0;have HSh:=Lh (fun w1=>Za1 p 0 0 0 0 0 0 0 0 w1);generalize Zar p false false 0 0 0 0 0 0 0 0=sb at *;simp only [KP.cells] at hW0 b0 HSh ⊢;obtain ⟨e0,e1,e2,e3,e4,e5,e6,e7⟩:=b0.c8;simp at e0 e1 e2 e3 e4 e5 e6 e7;clear b0 K0 hc0 hi0 hc hi HB0;go_enter Tryz.func66,Tryz.ntmps66
 go_wp2_with (go_at_call 88; (with_reducible refine (HSh.out _).mono ?_); rintro e1 w1 ⟨rfl,hb1⟩)
 go_ret;exact ⟨rfl,HK0.out.trans (hb1.mono HK0.out.size)⟩
theorem k_seq (k:KK) (n:Int) (p:KP) (B bc:Nat) (w:World) (hc:Chk w B bc k n) (hi:p.One w B) :
  Calls Tryz.prog 73 #[.pointer (some ⟨bc,0,none⟩),.agg p.cells] w (Zu (.bool (Zar p false false 0 0 0 0 0 0 0 2048)) w):=by
 obtain ⟨W0,hW0⟩:∃ W,w.alloc (.cells p.cells 31)=W:=⟨_,rfl⟩
 have b0:Blk W0 w.heap.size 31 p.cells:=by rw [← hW0]; exact Blk.new w _ _
 have K0:Below w.heap.size w W0:=by rw [← hW0]; exact (Below.refl _ _).alloc (Nat.le_refl _) _
 have hc0:=hc.call K0;have hi0:=hi.below (K0.mono hc.leB);have HK0:=Lh K0;have HB0:=Lh b0;have HSh:=Lh (fun w1=>Za1 p 0 0 0 0 0 0 0 2048 w1);generalize Zar p false false 0 0 0 0 0 0 0 2048=sb at *;simp only [KP.cells] at hW0 b0 HSh ⊢;obtain ⟨e0,e1,e2,e3,e4,e5,e6,e7⟩:=b0.c8;simp at e0 e1 e2 e3 e4 e5 e6 e7;clear b0 K0 hc0 hi0 hc hi HB0;go_enter Tryz.func73,Tryz.ntmps73
 go_wp2_with (go_at_call 88; (with_reducible refine (HSh.out _).mono ?_); rintro e1 w1 ⟨rfl,hb1⟩)
 go_ret;exact ⟨rfl,HK0.out.trans (hb1.mono HK0.out.size)⟩
theorem k_par (k:KK) (n:Int) (p:KP) (B bc:Nat) (w:World) (hc:Chk w B bc k n) (hi:p.One w B) :
  Calls Tryz.prog 74 #[.pointer (some ⟨bc,0,none⟩),.agg p.cells] w (Zu (.bool (Zar p false false 0 0 0 0 0 0 0 16)) w):=by
 obtain ⟨W0,hW0⟩:∃ W,w.alloc (.cells p.cells 31)=W:=⟨_,rfl⟩
 have b0:Blk W0 w.heap.size 31 p.cells:=by rw [← hW0]; exact Blk.new w _ _
 have K0:Below w.heap.size w W0:=by rw [← hW0]; exact (Below.refl _ _).alloc (Nat.le_refl _) _
 have hc0:=hc.call K0;have hi0:=hi.below (K0.mono hc.leB);have HK0:=Lh K0;have HB0:=Lh b0;have HSh:=Lh (fun w1=>Za1 p 0 0 0 0 0 0 0 16 w1);generalize Zar p false false 0 0 0 0 0 0 0 16=sb at *;simp only [KP.cells] at hW0 b0 HSh ⊢;obtain ⟨e0,e1,e2,e3,e4,e5,e6,e7⟩:=b0.c8;simp at e0 e1 e2 e3 e4 e5 e6 e7;clear b0 K0 hc0 hi0 hc hi HB0;go_enter Tryz.func74,Tryz.ntmps74
 go_wp2_with (go_at_call 88; (with_reducible refine (HSh.out _).mono ?_); rintro e1 w1 ⟨rfl,hb1⟩)
 go_ret;exact ⟨rfl,HK0.out.trans (hb1.mono HK0.out.size)⟩
theorem k_pri (k:KK) (n:Int) (p:KP) (B bc:Nat) (w:World) (hc:Chk w B bc k n) (hi:p.One w B) :
  Calls Tryz.prog 75 #[.pointer (some ⟨bc,0,none⟩),.agg p.cells] w (Zu (.bool (Zar p false false 0 0 0 0 0 0 2 2)) w):=by
 obtain ⟨W0,hW0⟩:∃ W,w.alloc (.cells p.cells 31)=W:=⟨_,rfl⟩
 have b0:Blk W0 w.heap.size 31 p.cells:=by rw [← hW0]; exact Blk.new w _ _
 have K0:Below w.heap.size w W0:=by rw [← hW0]; exact (Below.refl _ _).alloc (Nat.le_refl _) _
 have hc0:=hc.call K0;have hi0:=hi.below (K0.mono hc.leB);have HK0:=Lh K0;have HB0:=Lh b0;have HSh:=Lh (fun w1=>Za1 p 0 0 0 0 0 0 2 2 w1);generalize Zar p false false 0 0 0 0 0 0 2 2=sb at *;simp only [KP.cells] at hW0 b0 HSh ⊢;obtain ⟨e0,e1,e2,e3,e4,e5,e6,e7⟩:=b0.c8;simp at e0 e1 e2 e3 e4 e5 e6 e7;clear b0 K0 hc0 hi0 hc hi HB0;go_enter Tryz.func75,Tryz.ntmps75
 go_wp2_with (go_at_call 88; (with_reducible refine (HSh.out _).mono ?_); rintro e1 w1 ⟨rfl,hb1⟩)
 go_ret;exact ⟨rfl,HK0.out.trans (hb1.mono HK0.out.size)⟩
theorem ZpL (k:KK) (n:Int) (p:KP) (B bc:Nat) (w:World) (hc:Chk w B bc k n) (hi:p.One w B) :
  Calls Tryz.prog 71 #[.pointer (some ⟨bc,0,none⟩),.agg p.cells] w (Zu (.bool (Zar p false false 1 1 0 0 0 0 0 0 && Zef k.vars p.tos 1)) w):=by
 obtain ⟨W0,hW0⟩:∃ W,w.alloc (.cells p.cells 31)=W:=⟨_,rfl⟩
 have b0:Blk W0 w.heap.size 31 p.cells:=by rw [← hW0]; exact Blk.new w _ _
 have K0:Below w.heap.size w W0:=by rw [← hW0]; exact (Below.refl _ _).alloc (Nat.le_refl _) _
 have hc0:=hc.call K0;have hi0:=hi.below (K0.mono hc.leB);have HK0:=Lh K0;have HB0:=Lh b0;have HSh:=Lh (fun w1=>Za1 p 1 1 0 0 0 0 0 0 w1)
 cases hs:Zar p false false 1 1 0 0 0 0 0 0 with
 | false =>
   rw [hs] at HSh;rw [Bool.false_and];simp only [KP.cells] at hW0 b0 HSh ⊢;obtain ⟨e0,e1,e2,e3,e4,e5,e6,e7⟩:=b0.c8;simp at e0 e1 e2 e3 e4 e5 e6 e7;clear b0 K0 hc0 hi0 hc hi HB0 hs;go_enter Tryz.func71,Tryz.ntmps71
   go_wp2_with (go_at_call 88; (with_reducible refine (HSh.out _).mono ?_); rintro e1 w1 ⟨rfl,hb1⟩)
   go_ret;exact ⟨rfl,HK0.out.trans (hb1.mono HK0.out.size)⟩
 | true =>
   rw [hs] at HSh;rw [Bool.true_and];have hl:=ZbW hs
   have hlen:p.tos.length=1:=by omega
   obtain ⟨x,hx⟩:=ZaR hlen;have hp0:=hi0.2.1;rw [hx] at hp0;obtain ⟨b,off,y,hA,hb,hy,hin,c0,c1⟩:=Zdc hp0 rfl (k:=0) (by simp)
   obtain rfl:x=y:=by simpa using hy
   rw [Nat.zero_mul,Nat.add_zero] at c0 c1;have hbw:b < W0.heap.size:=Nat.lt_of_lt_of_le hb hc0.leB;have HX:=Lh (fun (w1:World) (h:Below W0.heap.size W0 w1)=>(show Calls Tryz.prog 89 #[.pointer (some ⟨bc,0,none⟩),.agg x.cells,.int .u8 1] w1 (Zu (.bool (Zai k.vars x 1)) w1) from Zlt k n x 1 B bc w1 (hc0.call h) (hin.below (h.mono hc0.leB))));have HRX:=Lh (show Zef k.vars p.tos 1=Zai k.vars x 1 by rw [hx]; rfl);generalize Zef k.vars p.tos 1=R at *;generalize Zai k.vars x 1=fx at *;simp only [KP.cells,hlen,hA] at hW0 b0 HSh HB0 ⊢;simp only [KPl.cells] at HX;obtain ⟨e0,e1,e2,e3,e4,e5,e6,e7⟩:=b0.c8;simp at e0 e1 e2 e3 e4 e5 e6 e7;clear b0 K0 hc0 hi0 hc hi hs hl hx hp0 hy hin hA hlen;go_enter Tryz.func71,Tryz.ntmps71
   go_wp2_with (first
    | (go_at_call 88; (with_reducible refine (HSh.out _).mono ?_); rintro e1 w1 ⟨rfl,hb1⟩
       have x1:=HB0.out.call hb1;obtain ⟨f0,f1,f2,f3,f4,f5,f6,f7⟩:=x1.c8;simp at f0 f1 f2 f3 f4 f5 f6 f7;have rc0:=(hb1.cell (p:=⟨b,off,none⟩) hbw).trans c0;have rc1:=(hb1.cell (p:=⟨b,off+1,none⟩) hbw).trans c1;have HB1:=Lh hb1
       clear x1 hb1)
    | (go_at_call 89; (with_reducible refine (HX.out _ HB1.out).mono ?_); rintro e2 w2 ⟨rfl,hb2⟩))
   go_ret;exact ⟨by rw [HRX.out]; rfl,HK0.out.trans ((HB1.out.trans (hb2.mono HB1.out.size)).mono HK0.out.size)⟩
theorem ZoG (k:KK) (n:Int) (p:KP) (B bc:Nat) (w:World) (hc:Chk w B bc k n) (hi:p.One w B) :
  Calls Tryz.prog 72 #[.pointer (some ⟨bc,0,none⟩),.agg p.cells] w (Zu (.bool (Zar p false false 0 0 1 1 0 0 0 0 && ZbJ k.vars p.e 1)) w):=by
 obtain ⟨W0,hW0⟩:∃ W,w.alloc (.cells p.cells 31)=W:=⟨_,rfl⟩
 have b0:Blk W0 w.heap.size 31 p.cells:=by rw [← hW0]; exact Blk.new w _ _
 have K0:Below w.heap.size w W0:=by rw [← hW0]; exact (Below.refl _ _).alloc (Nat.le_refl _) _
 have hc0:=hc.call K0;have hi0:=hi.below (K0.mono hc.leB);have HK0:=Lh K0;have HB0:=Lh b0;have HSh:=Lh (fun w1=>Za1 p 0 0 1 1 0 0 0 0 w1)
 cases hs:Zar p false false 0 0 1 1 0 0 0 0 with
 | false =>
   rw [hs] at HSh;rw [Bool.false_and];simp only [KP.cells] at hW0 b0 HSh ⊢;obtain ⟨e0,e1,e2,e3,e4,e5,e6,e7⟩:=b0.c8;simp at e0 e1 e2 e3 e4 e5 e6 e7;clear b0 K0 hc0 hi0 hc hi HB0 hs;go_enter Tryz.func72,Tryz.ntmps72
   go_wp2_with (go_at_call 88; (with_reducible refine (HSh.out _).mono ?_); rintro e1 w1 ⟨rfl,hb1⟩)
   go_ret;exact ⟨rfl,HK0.out.trans (hb1.mono HK0.out.size)⟩
 | true =>
   rw [hs] at HSh;rw [Bool.true_and];have hl:=ZbW hs
   have hlen:p.e.length=1:=by omega
   obtain ⟨x,hx⟩:=ZaR hlen;have hp0:=hi0.2.2.1;rw [hx] at hp0;obtain ⟨b,off,y,hA,hb,hy,hin,c0,c1,c2,c3,c4,c5⟩:=Zba hp0 (k:=0) (by simp)
   obtain rfl:x=y:=by simpa using hy
   rw [Nat.zero_mul,Nat.add_zero] at c0 c1 c2 c3 c4 c5;have hbw:b < W0.heap.size:=Nat.lt_of_lt_of_le hb hc0.leB;have HX:=Lh (fun (w1:World) (h:Below W0.heap.size W0 w1)=>ZlD k n x B bc w1 (hc0.call h) (hin.below (h.mono hc0.leB)));have HRX:=Lh (show ZbJ k.vars p.e 1=Z6 k.vars x 1 by rw [hx]; rfl);generalize ZbJ k.vars p.e 1=R at *;generalize Z6 k.vars x 1=fx at *;simp only [KP.cells,hlen,hA] at hW0 b0 HSh HB0 ⊢;simp only [KE.cells] at HX;obtain ⟨e0,e1,e2,e3,e4,e5,e6,e7⟩:=b0.c8;simp at e0 e1 e2 e3 e4 e5 e6 e7;clear b0 K0 hc0 hi0 hc hi hs hl hx hp0 hy hin hA hlen;go_enter Tryz.func72,Tryz.ntmps72
   go_wp2_with (first
    | (go_at_call 88; (with_reducible refine (HSh.out _).mono ?_); rintro e1 w1 ⟨rfl,hb1⟩
       have x1:=HB0.out.call hb1;obtain ⟨f0,f1,f2,f3,f4,f5,f6,f7⟩:=x1.c8;simp at f0 f1 f2 f3 f4 f5 f6 f7;have rc0:=(hb1.cell (p:=⟨b,off,none⟩) hbw).trans c0;have rc1:=(hb1.cell (p:=⟨b,off+1,none⟩) hbw).trans c1;have rc2:=(hb1.cell (p:=⟨b,off+2,none⟩) hbw).trans c2;have rc3:=(hb1.cell (p:=⟨b,off+3,none⟩) hbw).trans c3;have rc4:=(hb1.cell (p:=⟨b,off+4,none⟩) hbw).trans c4;have rc5:=(hb1.cell (p:=⟨b,off+5,none⟩) hbw).trans c5;have HB1:=Lh hb1
       clear x1 hb1)
    | (go_at_call 90; (with_reducible refine (HX.out _ HB1.out).mono ?_); rintro e2 w2 ⟨rfl,hb2⟩))
   go_ret;exact ⟨by rw [HRX.out]; rfl,HK0.out.trans ((HB1.out.trans (hb2.mono HB1.out.size)).mono HK0.out.size)⟩
theorem ZpM (k:KK) (n:Int) (p:KP) (B bc:Nat) (w:World) (hc:Chk w B bc k n) (hi:p.One w B) :
  Calls Tryz.prog 77 #[.pointer (some ⟨bc,0,none⟩),.agg p.cells] w (Zu (.bool (Zar p false false 0 0 1 1 0 0 1 1 && ZbJ k.vars p.e 3)) w):=by
 obtain ⟨W0,hW0⟩:∃ W,w.alloc (.cells p.cells 31)=W:=⟨_,rfl⟩
 have b0:Blk W0 w.heap.size 31 p.cells:=by rw [← hW0]; exact Blk.new w _ _
 have K0:Below w.heap.size w W0:=by rw [← hW0]; exact (Below.refl _ _).alloc (Nat.le_refl _) _
 have hc0:=hc.call K0;have hi0:=hi.below (K0.mono hc.leB);have HK0:=Lh K0;have HB0:=Lh b0;have HSh:=Lh (fun w1=>Za1 p 0 0 1 1 0 0 1 1 w1)
 cases hs:Zar p false false 0 0 1 1 0 0 1 1 with
 | false =>
   rw [hs] at HSh;rw [Bool.false_and];simp only [KP.cells] at hW0 b0 HSh ⊢;obtain ⟨e0,e1,e2,e3,e4,e5,e6,e7⟩:=b0.c8;simp at e0 e1 e2 e3 e4 e5 e6 e7;clear b0 K0 hc0 hi0 hc hi HB0 hs;go_enter Tryz.func77,Tryz.ntmps77
   go_wp2_with (go_at_call 88; (with_reducible refine (HSh.out _).mono ?_); rintro e1 w1 ⟨rfl,hb1⟩)
   go_ret;exact ⟨rfl,HK0.out.trans (hb1.mono HK0.out.size)⟩
 | true =>
   rw [hs] at HSh;rw [Bool.true_and];have hl:=ZbW hs
   have hlen:p.e.length=1:=by omega
   obtain ⟨x,hx⟩:=ZaR hlen;have hp0:=hi0.2.2.1;rw [hx] at hp0;obtain ⟨b,off,y,hA,hb,hy,hin,c0,c1,c2,c3,c4,c5⟩:=Zba hp0 (k:=0) (by simp)
   obtain rfl:x=y:=by simpa using hy
   rw [Nat.zero_mul,Nat.add_zero] at c0 c1 c2 c3 c4 c5;have hbw:b < W0.heap.size:=Nat.lt_of_lt_of_le hb hc0.leB;have HX:=Lh (fun (w1:World) (h:Below W0.heap.size W0 w1)=>ZnV k n x B bc w1 (hc0.call h) (hin.below (h.mono hc0.leB)));have HRX:=Lh (show ZbJ k.vars p.e 3=Z6 k.vars x 3 by rw [hx]; rfl);generalize ZbJ k.vars p.e 3=R at *;generalize Z6 k.vars x 3=fx at *;simp only [KP.cells,hlen,hA] at hW0 b0 HSh HB0 ⊢;simp only [KE.cells] at HX;obtain ⟨e0,e1,e2,e3,e4,e5,e6,e7⟩:=b0.c8;simp at e0 e1 e2 e3 e4 e5 e6 e7;clear b0 K0 hc0 hi0 hc hi hs hl hx hp0 hy hin hA hlen;go_enter Tryz.func77,Tryz.ntmps77
   go_wp2_with (first
    | (go_at_call 88; (with_reducible refine (HSh.out _).mono ?_); rintro e1 w1 ⟨rfl,hb1⟩
       have x1:=HB0.out.call hb1;obtain ⟨f0,f1,f2,f3,f4,f5,f6,f7⟩:=x1.c8;simp at f0 f1 f2 f3 f4 f5 f6 f7;have rc0:=(hb1.cell (p:=⟨b,off,none⟩) hbw).trans c0;have rc1:=(hb1.cell (p:=⟨b,off+1,none⟩) hbw).trans c1;have rc2:=(hb1.cell (p:=⟨b,off+2,none⟩) hbw).trans c2;have rc3:=(hb1.cell (p:=⟨b,off+3,none⟩) hbw).trans c3;have rc4:=(hb1.cell (p:=⟨b,off+4,none⟩) hbw).trans c4;have rc5:=(hb1.cell (p:=⟨b,off+5,none⟩) hbw).trans c5;have HB1:=Lh hb1
       clear x1 hb1)
    | (go_at_call 90; (with_reducible refine (HX.out _ HB1.out).mono ?_); rintro e2 w2 ⟨rfl,hb2⟩))
   go_ret;exact ⟨by rw [HRX.out]; rfl,HK0.out.trans ((HB1.out.trans (hb2.mono HB1.out.size)).mono HK0.out.size)⟩
theorem k_in (k:KK) (n:Int) (p:KP) (B bc:Nat) (w:World) (hc:Chk w B bc k n) (hi:p.One w B) :
  Calls Tryz.prog 69 #[.pointer (some ⟨bc,0,none⟩),.agg p.cells] w (Zu (.bool (Zar p true false 1 1 0 0 0 0 0 0 && ZdJ k.vars k.chans.length p.c p.item p.tos)) w):=by
 obtain ⟨W0,hW0⟩:∃ W,w.alloc (.cells p.cells 31)=W:=⟨_,rfl⟩
 have b0:Blk W0 w.heap.size 31 p.cells:=by rw [← hW0]; exact Blk.new w _ _
 have K0:Below w.heap.size w W0:=by rw [← hW0]; exact (Below.refl _ _).alloc (Nat.le_refl _) _
 have hc0:=hc.call K0;have hi0:=hi.below (K0.mono hc.leB);have HK0:=Lh K0;have HB0:=Lh b0;have HSh:=Lh (fun w1=>ZgG p 1 1 0 0 0 0 0 0 w1);have hpw:=b0.lt
 cases hs:Zar p true false 1 1 0 0 0 0 0 0 with
 | false =>
   rw [hs] at HSh;rw [Bool.false_and];simp only [KP.cells] at hW0 b0 HSh ⊢;obtain ⟨e0,e1,e2,e3,e4,e5,e6,e7⟩:=b0.c8;simp at e0 e1 e2 e3 e4 e5 e6 e7;clear b0 K0 hc0 hi0 hc hi HB0 hs;go_enter Tryz.func69,Tryz.ntmps69
   go_upto_region 1 with fail
   obtain ⟨ι,F,i0',h0',hFb,hcl⟩:=ZC W0;have Fe0:=famc hFb e0 hpw;have Fe1:=famc hFb e1 hpw;have Fe2:=famc hFb e2 hpw;have Fe3:=famc hFb e3 hpw;have Fe4:=famc hFb e4 hpw;have Fe5:=famc hFb e5 hpw;have Fe6:=famc hFb e6 hpw;have Fe7:=famc hFb e7 hpw
   haveI:Nonempty ι:=⟨i0'⟩
   refine Zb F i0' h0' (by kernel_rfl) (by kernel_rfl) ?_
   repeat (go_big_quiet_step (first
    | (go_at_call 88; refine (HSh.out _).mono ?_; rintro e w4 ⟨rfl,hb4⟩; exact ⟨rfl,hcl _ _ hb4⟩)))
   refine wpQuiet_nil ?_;intro i;have K5:=Lh (HK0.out.trans ((hFb i).mono HK0.out.size))
   go_wp2
   go_ret;exact ⟨rfl,K5.out⟩
 | true =>
   rw [hs] at HSh;rw [Bool.true_and];have hl:=ZbW hs
   have hlen:p.tos.length=1:=by omega
   obtain ⟨x,hx⟩:=ZaR hlen;have hp0:=hi0.2.1;rw [hx] at hp0;obtain ⟨b,off,y,hA,hb,hy,hin,c0,c1⟩:=Zdc hp0 rfl (k:=0) (by simp)
   obtain rfl:x=y:=by simpa using hy
   rw [Nat.zero_mul,Nat.add_zero] at c0 c1;have hbw:b < W0.heap.size:=Nat.lt_of_lt_of_le hb hc0.leB;have hone:=hi.1;have HRX:=Lh (show (ZdJ k.vars k.chans.length p.c p.item p.tos)=(Zbg k.vars k.chans.length p.c p.item x) by rw [hx]; rfl);have HX0:=Lh (fun (w1:World) (h:Below W0.heap.size W0 w1)=>ZnU k n p.c p.item x B bc w1 (hc0.call h) hone.2.1 (hin.below (h.mono hc0.leB)));generalize (ZdJ k.vars k.chans.length p.c p.item p.tos)=R at *;generalize Zbg k.vars k.chans.length p.c p.item x=fx at *;simp only [KP.cells,hlen,hA] at hW0 b0 HSh HB0 ⊢;simp only [KPl.cells] at HX0;obtain ⟨e0,e1,e2,e3,e4,e5,e6,e7⟩:=b0.c8;simp at e0 e1 e2 e3 e4 e5 e6 e7;clear b0 K0 hc0 hi0 hc hi hs hl hx hp0 hy hin hA hlen hone;go_enter Tryz.func69,Tryz.ntmps69
   go_upto_region 1 with fail
   obtain ⟨ι,F,i0',h0',hFb,hcl⟩:=ZC W0;have Fe0:=famc hFb e0 hpw;have Fe1:=famc hFb e1 hpw;have Fe2:=famc hFb e2 hpw;have Fe3:=famc hFb e3 hpw;have Fe4:=famc hFb e4 hpw;have Fe5:=famc hFb e5 hpw;have Fe6:=famc hFb e6 hpw;have Fe7:=famc hFb e7 hpw;have Fc0:=famc hFb c0 hbw;have Fc1:=famc hFb c1 hbw;have HCX:=Lh (fun i=>HX0.out (F i) (hFb i))
   haveI:Nonempty ι:=⟨i0'⟩
   refine Zb F i0' h0' (by kernel_rfl) (by kernel_rfl) ?_
   repeat (go_big_quiet_step (first
    | (go_at_call 88; refine (HSh.out _).mono ?_; rintro e w4 ⟨rfl,hb4⟩; exact ⟨rfl,hcl _ _ hb4⟩)
    | (go_at_call 91; refine (HCX.out _).mono ?_; rintro e w4 ⟨rfl,hb4⟩; exact ⟨rfl,hcl _ _ hb4⟩)))
   refine wpQuiet_nil ?_;intro i;have K5:=Lh (HK0.out.trans ((hFb i).mono HK0.out.size))
   go_wp2
   go_ret;exact ⟨by rw [HRX.out]; rfl,K5.out⟩
theorem k_out (k:KK) (n:Int) (p:KP) (B bc:Nat) (w:World) (hc:Chk w B bc k n) (hi:p.One w B) :
  Calls Tryz.prog 70 #[.pointer (some ⟨bc,0,none⟩),.agg p.cells] w (Zu (.bool (Zar p true false 0 0 1 1 0 0 0 0 && ZS k.chans.length p.c p.item 0 && ZbJ k.vars p.e p.item)) w):=by
 obtain ⟨W0,hW0⟩:∃ W,w.alloc (.cells p.cells 31)=W:=⟨_,rfl⟩
 have b0:Blk W0 w.heap.size 31 p.cells:=by rw [← hW0]; exact Blk.new w _ _
 have K0:Below w.heap.size w W0:=by rw [← hW0]; exact (Below.refl _ _).alloc (Nat.le_refl _) _
 have hc0:=hc.call K0;have hi0:=hi.below (K0.mono hc.leB);have HK0:=Lh K0;have HB0:=Lh b0;have HSh:=Lh (fun w1=>ZgG p 0 0 1 1 0 0 0 0 w1);have hpw:=b0.lt
 cases hs:Zar p true false 0 0 1 1 0 0 0 0 with
 | false =>
   rw [hs] at HSh;rw [Bool.false_and];simp only [KP.cells] at hW0 b0 HSh ⊢;obtain ⟨e0,e1,e2,e3,e4,e5,e6,e7⟩:=b0.c8;simp at e0 e1 e2 e3 e4 e5 e6 e7;clear b0 K0 hc0 hi0 hc hi HB0 hs;go_enter Tryz.func70,Tryz.ntmps70
   go_upto_region 1 with fail
   obtain ⟨ι,F,i0',h0',hFb,hcl⟩:=ZC W0;have Fe0:=famc hFb e0 hpw;have Fe1:=famc hFb e1 hpw;have Fe2:=famc hFb e2 hpw;have Fe3:=famc hFb e3 hpw;have Fe4:=famc hFb e4 hpw;have Fe5:=famc hFb e5 hpw;have Fe6:=famc hFb e6 hpw;have Fe7:=famc hFb e7 hpw
   haveI:Nonempty ι:=⟨i0'⟩
   refine Zb F i0' h0' (by kernel_rfl) (by kernel_rfl) ?_
   repeat (go_big_quiet_step (first
    | (go_at_call 88; refine (HSh.out _).mono ?_; rintro e w4 ⟨rfl,hb4⟩; exact ⟨rfl,hcl _ _ hb4⟩)))
   refine wpQuiet_nil ?_;intro i;have K5:=Lh (HK0.out.trans ((hFb i).mono HK0.out.size))
   go_wp2
   go_ret;exact ⟨rfl,K5.out⟩
 | true =>
   rw [hs] at HSh;rw [Bool.true_and];have hl:=ZbW hs
   have hlen:p.e.length=1:=by omega
   obtain ⟨x,hx⟩:=ZaR hlen;have hp0:=hi0.2.2.1;rw [hx] at hp0;obtain ⟨b,off,y,hA,hb,hy,hin,c0,c1,c2,c3,c4,c5⟩:=Zba hp0 (k:=0) (by simp)
   obtain rfl:x=y:=by simpa using hy
   rw [Nat.zero_mul,Nat.add_zero] at c0 c1 c2 c3 c4 c5;have hbw:b < W0.heap.size:=Nat.lt_of_lt_of_le hb hc0.leB;have hone:=hi.1;have HRX:=Lh (show (ZS k.chans.length p.c p.item 0 && ZbJ k.vars p.e p.item)=(ZS k.chans.length p.c p.item 0 && Z6 k.vars x p.item) by rw [hx]; rfl);have HX0:=Lh (fun (w1:World) (h:Below W0.heap.size W0 w1)=>Zi2 k n p.c 0 p.item B bc w1 (hc0.call h) hone.2.1);have HX1:=Lh (fun (hp:ZaT p.item=true) (w1:World) (h:Below W0.heap.size W0 w1)=>Znj k n x p.item (by rcases Zbs hp with h | h | h <;> simp [h]) B bc w1 (hc0.call h) (hin.below (h.mono hc0.leB)));generalize (ZS k.chans.length p.c p.item 0 && ZbJ k.vars p.e p.item)=R at *;have HPR:=Lh (fun (h:ZS k.chans.length p.c p.item 0=true)=>show ZaT p.item=true by simp only [ZS,Bool.and_eq_true] at h; exact h.1.2);generalize ZS k.chans.length p.c p.item 0=cb at *;generalize Z6 k.vars x p.item=fx at *;simp only [KP.cells,hlen,hA] at hW0 b0 HSh HB0 ⊢;simp only [KE.cells] at HX1;obtain ⟨e0,e1,e2,e3,e4,e5,e6,e7⟩:=b0.c8;simp at e0 e1 e2 e3 e4 e5 e6 e7;clear b0 K0 hc0 hi0 hc hi hs hl hx hp0 hy hin hA hlen hone
   cases cb with
   | false =>
     clear HX1 HPR;go_enter Tryz.func70,Tryz.ntmps70
     go_upto_region 1 with fail
     obtain ⟨ι,F,i0',h0',hFb,hcl⟩:=ZC W0;have Fe0:=famc hFb e0 hpw;have Fe1:=famc hFb e1 hpw;have Fe2:=famc hFb e2 hpw;have Fe3:=famc hFb e3 hpw;have Fe4:=famc hFb e4 hpw;have Fe5:=famc hFb e5 hpw;have Fe6:=famc hFb e6 hpw;have Fe7:=famc hFb e7 hpw;have HCX:=Lh (fun i=>HX0.out (F i) (hFb i))
     haveI:Nonempty ι:=⟨i0'⟩
     refine Zb F i0' h0' (by kernel_rfl) (by kernel_rfl) ?_
     repeat (go_big_quiet_step (first
      | (go_at_call 88; refine (HSh.out _).mono ?_; rintro e w4 ⟨rfl,hb4⟩; exact ⟨rfl,hcl _ _ hb4⟩)
      | (go_at_call 92; refine (HCX.out _).mono ?_; rintro e w4 ⟨rfl,rfl⟩; exact ⟨rfl,_,rfl⟩)))
     refine wpQuiet_nil ?_;intro i;have K5:=Lh (HK0.out.trans ((hFb i).mono HK0.out.size))
     go_wp2
     go_ret;exact ⟨by rw [HRX.out]; rfl,K5.out⟩
   | true =>
     have HX2:=Lh (HX1.out (HPR.out rfl));clear HX1 HPR;go_enter Tryz.func70,Tryz.ntmps70
     go_upto_region 1 with fail
     obtain ⟨ι,F,i0',h0',hFb,hcl⟩:=ZC W0;have Fe0:=famc hFb e0 hpw;have Fe1:=famc hFb e1 hpw;have Fe2:=famc hFb e2 hpw;have Fe3:=famc hFb e3 hpw;have Fe4:=famc hFb e4 hpw;have Fe5:=famc hFb e5 hpw;have Fe6:=famc hFb e6 hpw;have Fe7:=famc hFb e7 hpw;have Fc0:=famc hFb c0 hbw;have Fc1:=famc hFb c1 hbw;have Fc2:=famc hFb c2 hbw;have Fc3:=famc hFb c3 hbw;have Fc4:=famc hFb c4 hbw;have Fc5:=famc hFb c5 hbw;have HCX:=Lh (fun i=>HX0.out (F i) (hFb i));have HCF:=Lh (fun i=>HX2.out (F i) (hFb i))
     haveI:Nonempty ι:=⟨i0'⟩
     refine Zb F i0' h0' (by kernel_rfl) (by kernel_rfl) ?_
     repeat (go_big_quiet_step (first
      | (go_at_call 88; refine (HSh.out _).mono ?_; rintro e w4 ⟨rfl,hb4⟩; exact ⟨rfl,hcl _ _ hb4⟩)
      | (go_at_call 92; refine (HCX.out _).mono ?_; rintro e w4 ⟨rfl,rfl⟩; exact ⟨rfl,_,rfl⟩)
      | (go_at_call 90; refine (HCF.out _).mono ?_; rintro e w4 ⟨rfl,hb4⟩; exact ⟨rfl,hcl _ _ hb4⟩)))
     refine wpQuiet_nil ?_;intro i;have K5:=Lh (HK0.out.trans ((hFb i).mono HK0.out.size))
     go_wp2
     go_ret;exact ⟨by rw [HRX.out]; rfl,K5.out⟩
theorem ZoF (k:KK) (n:Int) (p:KP) (B bc:Nat) (w:World) (hc:Chk w B bc k n) (hi:p.One w B) :
  Calls Tryz.prog 67 #[.pointer (some ⟨bc,0,none⟩),.agg p.cells] w (Zu (.bool (Zar p false true 0 0 0 0 0 0 0 0 && decide (0≤p.v∧p.v < k.vars.length))) w):=by
 obtain ⟨W0,hW0⟩:∃ W,w.alloc (.cells p.cells 31)=W:=⟨_,rfl⟩
 have b0:Blk W0 w.heap.size 31 p.cells:=by rw [← hW0]; exact Blk.new w _ _
 have K0:Below w.heap.size w W0:=by rw [← hW0]; exact (Below.refl _ _).alloc (Nat.le_refl _) _
 have hc0:=hc.call K0;have hi0:=hi.below (K0.mono hc.leB);have HK0:=Lh K0;have HB0:=Lh b0;have HSh:=Lh (fun w1=>ZjV p 0 0 0 0 0 0 0 0 w1);have hpw:=b0.lt;have hcw:=hc0.lt;have v0:=hc0.c0;have HD:=Lh (show decide (0≤p.v∧p.v < k.vars.length)=(decide (0≤p.v) && decide (p.v < (k.vars.length:Int))) by rw [Bool.decide_and]);generalize decide (0≤p.v∧p.v < k.vars.length)=R at *
 cases hs:Zar p false true 0 0 0 0 0 0 0 0 with
 | false =>
   rw [hs] at HSh;rw [Bool.false_and];simp only [KP.cells] at hW0 b0 HSh ⊢;obtain ⟨e0,e1,e2,e3,e4,e5,e6,e7⟩:=b0.c8;simp at e0 e1 e2 e3 e4 e5 e6 e7;clear b0 K0 hc0 hi0 hc hi HB0 hs;go_enter Tryz.func67,Tryz.ntmps67
   go_upto_region 1 with fail
   obtain ⟨ι,F,i0',h0',hFb,hcl⟩:=ZC W0;have Fe0:=famc hFb e0 hpw;have Fe1:=famc hFb e1 hpw;have Fe2:=famc hFb e2 hpw;have Fe3:=famc hFb e3 hpw;have Fe4:=famc hFb e4 hpw;have Fe5:=famc hFb e5 hpw;have Fe6:=famc hFb e6 hpw;have Fe7:=famc hFb e7 hpw
   haveI:Nonempty ι:=⟨i0'⟩
   refine Zb F i0' h0' (by kernel_rfl) (by kernel_rfl) ?_
   repeat (go_big_quiet_step (first
    | (go_at_call 88; refine (HSh.out _).mono ?_; rintro e w4 ⟨rfl,hb4⟩; exact ⟨rfl,hcl _ _ hb4⟩)))
   refine wpQuiet_nil ?_;intro i;have K5:=Lh (HK0.out.trans ((hFb i).mono HK0.out.size))
   go_wp2
   go_ret;exact ⟨rfl,K5.out⟩
 | true =>
   rw [hs] at HSh;rw [Bool.true_and];simp only [KP.cells] at hW0 b0 HSh ⊢;obtain ⟨e0,e1,e2,e3,e4,e5,e6,e7⟩:=b0.c8;simp at e0 e1 e2 e3 e4 e5 e6 e7;clear b0 K0 hc0 hi0 hc hi HB0 hs
   by_cases h0:0≤p.v
   ·have HR:=Lh (show R=decide (p.v < (k.vars.length:Int)) by rw [HD.out,decide_eq_true h0]; rfl);go_enter Tryz.func67,Tryz.ntmps67
    go_upto_region 1 with fail
    obtain ⟨ι,F,i0',h0',hFb,hcl⟩:=ZC W0;have Fe0:=famc hFb e0 hpw;have Fe1:=famc hFb e1 hpw;have Fe2:=famc hFb e2 hpw;have Fe3:=famc hFb e3 hpw;have Fe4:=famc hFb e4 hpw;have Fe5:=famc hFb e5 hpw;have Fe6:=famc hFb e6 hpw;have Fe7:=famc hFb e7 hpw;have Fv0:=famc hFb v0 hcw
    haveI:Nonempty ι:=⟨i0'⟩
    refine Zb F i0' h0' (by kernel_rfl) (by kernel_rfl) ?_
    repeat (go_big_quiet_step (first
     | (go_at_call 88; refine (HSh.out _).mono ?_; rintro e w4 ⟨rfl,hb4⟩; exact ⟨rfl,hcl _ _ hb4⟩)))
    refine wpQuiet_nil ?_;intro i;have K5:=Lh (HK0.out.trans ((hFb i).mono HK0.out.size))
    go_wp2
    go_ret;exact ⟨by refine Za rfl ?_; rw [HR.out],K5.out⟩
   ·have HR:=Lh (show R=false by rw [HD.out,decide_eq_false h0]; rfl);go_enter Tryz.func67,Tryz.ntmps67
    go_upto_region 1 with fail
    obtain ⟨ι,F,i0',h0',hFb,hcl⟩:=ZC W0;have Fe0:=famc hFb e0 hpw;have Fe1:=famc hFb e1 hpw;have Fe2:=famc hFb e2 hpw;have Fe3:=famc hFb e3 hpw;have Fe4:=famc hFb e4 hpw;have Fe5:=famc hFb e5 hpw;have Fe6:=famc hFb e6 hpw;have Fe7:=famc hFb e7 hpw;have Fv0:=famc hFb v0 hcw
    haveI:Nonempty ι:=⟨i0'⟩
    refine Zb F i0' h0' (by kernel_rfl) (by kernel_rfl) ?_
    repeat (go_big_quiet_step (first
     | (go_at_call 88; refine (HSh.out _).mono ?_; rintro e w4 ⟨rfl,hb4⟩; exact ⟨rfl,hcl _ _ hb4⟩)))
    refine wpQuiet_nil ?_;intro i;have K5:=Lh (HK0.out.trans ((hFb i).mono HK0.out.size))
    go_wp2
    go_ret;exact ⟨by refine Za rfl ?_; rw [HR.out],K5.out⟩
end Go.Proofs.YtjndhfcfcedheaaGreatDoor
