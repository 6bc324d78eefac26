/- Texts that belong together: S9 SC VS VT VU VV WQ WR WS WT FS. -/
import Derived.Test.YtjndhfcfcedheaaGreatDoorHK26
import Derived.Test.YtjndhfcfcedheaaGreatDoorHK11
import Derived.Test.YtjndhfcfcedheaaGreatDoorHK4
import Derived.Test.YtjndhfcfcedheaaGreatDoorHK25
import Derived.Test.YtjndhfcfcedheaaGreatDoorHK24
import Derived.Test.YtjndhfcfcedheaaGreatDoorHK3
import Derived.BigQuiet
import Derived.IntWalk
import Derived.Laws.BitsLemmas
import Derived.Laws.Rows
import Derived.Lib.Bytealg
import Derived.Lib.ConvBytes
import Derived.Lib.Hide
import Derived.Lib.IndexBytes
import Derived.Lib.IndexMore
import Derived.Lib.ParseIntB
import Derived.Lib.ParseIntBCases
import Derived.Lib.ParseIntBTie
import Derived.Maps.OwnSet
import Derived.Shelf.Small.Strs
import Derived.Test.YtjndhfcfcedheaaGreatDoorHK10
import Derived.Test.YtjndhfcfcedheaaGreatDoorHK49
import Derived.Test.YtjndhfcfcedheaaGreatDoorHK46
import Derived.Test.YtjndhfcfcedheaaGreatDoorHK47
import Derived.Test.YtjndhfcfcedheaaGreatDoorHK1
import Derived.Test.YtjndhfcfcedheaaGreatDoorHK12
import Derived.Lib.LaidTab
import Derived.Stop.LaidErr
import Derived.LaidMore
import Derived.Lay
import Derived.ProofKit
import Derived.OpenShut
import Derived.DataShut
set_option linter.unusedVariables false
set_option linter.unusedSimpArgs false
set_option maxRecDepth 100000
set_option maxHeartbeats 16000000
namespace Go.Proofs.YtjndhfcfcedheaaGreatDoor
open Go.RowKit
structure RwL where
 A:Option Addr
 c:Nat
 l:List Int
instance:Inhabited RwL:=⟨⟨none,0,[]⟩⟩
def RwL.cells (r:RwL):List Value:=[.slice r.A r.l.length r.c]
def RwL.In (w:World) (B:Nat) (r:RwL):Prop:=ZB r.l∧Zo w B 1 r.A r.l.length (Zpl r.l)∧∀ v∈r.l,is32 v
theorem RwL.In.below {w w':World} {B:Nat} {r:RwL} (h:r.In w B) (hb:Below B w w'):r.In w' B:=⟨h.1,h.2.1.below hb,h.2.2⟩
theorem ZqY (s:SpL) (frame i:Int) (A1:Option Addr) (p1:Nat) (at_:List Int) (A2:Option Addr) (p2:Nat) (in_:List Int) (B:Nat) (w:World) (hi:s.In w B) (h1:Zbf w B A1 at_) (h2:Zbf w B A2 in_) (hB:B≤w.heap.size) (hf:Zy frame) (hi64:Zy i) :
  Calls Tryz.prog 56 #[.agg s.cells,.int .i64 frame,.int .i64 i,.slice A1 at_.length p1,.slice A2 in_.length p2] w (Zu (Zh9 (Zbr s.fr frame i at_ in_)) w):=by
 obtain ⟨W0,hW0⟩:∃ W,w.alloc (.cells s.cells 38)=W:=⟨_,rfl⟩
 have K0:Hid (Below w.heap.size w W0):=Lh (by rw [← hW0]; exact (Below.refl _ _).alloc (Nat.le_refl _) _)
 have b0:Blk W0 w.heap.size 38 s.cells:=by rw [← hW0]; exact Blk.new _ _ _
 have HI:Hid (s.In W0 B):=Lh (hi.below (K0.out.mono hB));have H1:Hid (Zbf W0 B A1 at_):=Lh (h1.below (K0.out.mono hB));have H2:Hid (Zbf W0 B A2 in_):=Lh (h2.below (K0.out.mono hB));have HBL:Hid (B≤w.heap.size):=Lh hB
 have HQ:Hid (Zbr s.fr frame i at_ in_=if frame < 0∨(s.fr.length:Int)≤frame∨i < 0∨(at_.length:Int)≤i∨(in_.length:Int)≤i then none
  else upF s.fr (in_.getD i.toNat 0) (frame.toNat+1) frame.toNat (at_.getD i.toNat 0)):=Lh rfl
 generalize Zbr s.fr frame i at_ in_=R at *;simp only [SpL.cells] at b0 hW0 ⊢;have l0:=hi.1.1;have l1:=h1.1;have l2:=h2.1;unfold ZB at l0 l1 l2
 obtain ⟨nf,hnf⟩:∃ n,s.fr.length=n:=⟨_,rfl⟩
 obtain ⟨n1,hn1⟩:∃ n,at_.length=n:=⟨_,rfl⟩
 obtain ⟨n2,hn2⟩:∃ n,in_.length=n:=⟨_,rfl⟩
 have HN:=Lh hnf;have HN1:=Lh hn1;have HN2:=Lh hn2;rw [hnf] at b0 hW0 l0 HQ ⊢;rw [hn1] at l1 HQ ⊢;rw [hn2] at l2 HQ ⊢;obtain ⟨c0,c1,c2,c3,c4⟩:=b0.c5;simp at c0 c1 c2 c3 c4;have hwl:=b0.lt;clear b0 hi h1 h2 hB hnf hn1 hn2 hf hi64;go_enter Tryz.func56,Tryz.ntmps56
 by_cases q1:frame < 0
 ·obtain rfl:R=none:=by rw [HQ.out,if_pos (.inl q1)]
  go_wp2
  go_ret2;exact ⟨rfl,K0.out⟩
 by_cases q2:(nf:Int)≤frame
 ·obtain rfl:R=none:=by rw [HQ.out,if_pos (.inr (.inl q2))]
  go_wp2
  go_ret2;exact ⟨rfl,K0.out⟩
 by_cases q3:i < 0
 ·obtain rfl:R=none:=by rw [HQ.out,if_pos (.inr (.inr (.inl q3)))]
  go_wp2
  go_ret2;exact ⟨rfl,K0.out⟩
 by_cases q4:(n1:Int)≤i
 ·obtain rfl:R=none:=by rw [HQ.out,if_pos (by omega)]
  go_wp2
  go_ret2;exact ⟨rfl,K0.out⟩
 by_cases q5:(n2:Int)≤i
 ·obtain rfl:R=none:=by rw [HQ.out,if_pos (by omega)]
  go_wp2
  go_ret2;exact ⟨rfl,K0.out⟩
 obtain ⟨k,rfl⟩:∃ k:Nat,i=k:=⟨i.toNat,by omega⟩
 obtain ⟨f,rfl⟩:∃ k:Nat,frame=k:=⟨frame.toNat,by omega⟩
 have hk1:k < at_.length:=by have:=HN1.out; omega
 have hk2:k < in_.length:=by have:=HN2.out; omega
 obtain ⟨ba,oa,va,rfl,hba,hva,-,ca⟩:=Zej H1.out hk1;obtain ⟨bi,oi,vi,rfl,hbi,hvi,-,ci⟩:=Zej H2.out hk2
 have HR:Hid (upF s.fr vi (f+1) f va=R):=Lh (by
  rw [HQ.out,if_neg (by omega)]
  simp only [Int.toNat_natCast,List.getD_eq_getElem?_getD,hva,hvi,Option.getD_some])
 clear HQ
 have hk1I:(k:Int) < n1:=by omega
 have hk2I:(k:Int) < n2:=by omega
 have hfI:(f:Int) < nf:=by omega
 clear q3 q4 q5 q1 q2
 go_wp2
 go_loopw [12,13] (fun a b wr=>∃ (g:Nat) (nn:Int),a = .int .i64 nn∧b = .int .i64 g∧g < nf∧Hid (upF s.fr vi (g+1) g nn=R)∧Hid (Below W0.heap.size W0 wr)) (fun _ b _=>(intOf b).toNat)
 case atStart=>exact ⟨f,va,rfl,rfl,by omega,HR,Lh (Below.refl _ _)⟩
 case round =>
  clear HR;obtain ⟨g,nn,rfl,rfl,hg,HU,HB⟩:=hrel
  have hgI:(g:Int) < nf:=by omega
  have hw0:=(ZbT HB.out).1;have ci':=(hw0 bi (oi+k) (Nat.lt_of_lt_of_le hbi (Nat.le_trans HBL.out K0.out.size))).trans ci;have c0':=(hw0 w.heap.size 0 hwl).trans c0;obtain ⟨bf,of,x,hAf,hbf,hx,hxo,f0,f1,f2,f3,f4⟩:=Zj6 (HI.out.below (HB.out.mono (Nat.le_trans HBL.out K0.out.size))) (k:=g) (by rw [HN.out]; exact hg);rw [hAf] at c0';have HBS:=Lh (K0.out.trans (HB.out.mono K0.out.size));have HX:=Lh hx
  have z1:bf < wr.heap.size:=by have:=HB.out.size; have:=K0.out.size; have:=HBL.out; omega
  have z2:bi < wr.heap.size:=by have:=HB.out.size; have:=K0.out.size; have:=HBL.out; omega
  have z3:w.heap.size < wr.heap.size:=by have:=HB.out.size; omega
  clear hw0 ci c0 hAf hx
  by_cases he:(g:Int)=vi
  ·have HE:=Lh (Zof (fr:=s.fr) (n:=nn) he);obtain rfl:R=some nn:=HU.out.symm.trans HE.out
   have he2:((g:Int) != vi)=false:=by simpa using he
   clear he
   go_wp2
   go_ret2;exact ⟨rfl,HBS.out⟩
  ·have he2:((g:Int) != vi)=true:=by simpa using he
   by_cases hp:x.parent < 0∨(g:Int)≤x.parent
   ·have HE:=Lh (Zoe (n:=nn) he HX.out hp);obtain rfl:R=none:=HU.out.symm.trans HE.out
    rcases hp with hp | hp
    all_goals
     go_wp2
     all_goals
      go_ret2;exact ⟨rfl,HBS.out⟩
   ·have HE:=Lh (Zpq (n:=nn) he HX.out hp)
    have hp1:¬ x.parent < 0:=by omega
    have hp2:¬ (g:Int)≤x.parent:=by omega
    obtain ⟨pp,hpp⟩:∃ p:Nat,x.parent=p:=⟨x.parent.toNat,by omega⟩
    have HPP:=Lh hpp;rw [hpp] at f0 hp1 hp2;clear he hp hpp
    have HU2:Hid (upF s.fr vi (pp+1) pp (wrap64 (nn+x.down))=R):=Lh (by
     have h1:=HE.out;rw [HPP.out,Int.toNat_natCast] at h1
     exact h1.symm.trans HU.out)
    go_wp2
    go_roundw
    case rel=>exact ⟨pp,_,rfl,rfl,by omega,HU2,HB⟩
    case measure=>simp [intOf]; omega
theorem Zq2 (s:SpL) (frame v:Int) (B:Nat) (w:World) (hi:s.In w B) (hB:B≤w.heap.size) (hf:Zy frame) (hv:Zy v) :
  Calls Tryz.prog 34 #[.agg s.cells,.int .i64 frame,.int .i64 v] w (Zu (Zh9 (Zph s frame v)) w):=by
 obtain ⟨W0,hW0⟩:∃ W,w.alloc (.cells s.cells 38)=W:=⟨_,rfl⟩
 have K0:Hid (Below w.heap.size w W0):=Lh (by rw [← hW0]; exact (Below.refl _ _).alloc (Nat.le_refl _) _)
 have b0:Blk W0 w.heap.size 38 s.cells:=by rw [← hW0]; exact Blk.new _ _ _
 have hi0:=hi.below (K0.out.mono hB);have HC:=Lh (ZqY s frame v s.A1 s.c1 s.vat s.A2 s.c2 s.vin B W0 hi0 hi0.2.1 hi0.2.2.1 (Nat.le_trans hB K0.out.size) hf hv);have HQ:Hid (Zph s frame v=Zbr s.fr frame v s.vat s.vin):=Lh rfl;generalize Zph s frame v=R at *;generalize Zbr s.fr frame v s.vat s.vin=R2 at *;obtain rfl:=HQ.out;simp only [SpL.cells] at b0 hW0 HC ⊢;unfold Zh9 at HC ⊢;obtain ⟨c0,c1,c2,c3,c4⟩:=b0.c5;simp at c0 c1 c2 c3 c4;have hwl:=b0.lt;clear b0 hi hB hf hv hi0 HQ;go_enter Tryz.func34,Tryz.ntmps34
 go_wp2_with first
  | (go_at_call 56; (with_reducible refine HC.out.mono ?_); rintro e w1 ⟨rfl,hb1⟩)
 go_ret2;exact ⟨rfl,K0.out.trans (hb1.mono K0.out.size)⟩
def ZnB (s:SpL) (frame v:Int):Option Int:=Zbr s.fr frame v s.cat s.cin
theorem Zon (s:SpL) (frame v:Int) (B:Nat) (w:World) (hi:s.In w B) (hB:B≤w.heap.size) (hf:Zy frame) (hv:Zy v) :
  Calls Tryz.prog 33 #[.agg s.cells,.int .i64 frame,.int .i64 v] w (Zu (Zh9 (ZnB s frame v)) w):=by
 obtain ⟨W0,hW0⟩:∃ W,w.alloc (.cells s.cells 38)=W:=⟨_,rfl⟩
 have K0:Hid (Below w.heap.size w W0):=Lh (by rw [← hW0]; exact (Below.refl _ _).alloc (Nat.le_refl _) _)
 have b0:Blk W0 w.heap.size 38 s.cells:=by rw [← hW0]; exact Blk.new _ _ _
 have hi0:=hi.below (K0.out.mono hB);have HC:=Lh (ZkG s frame v s.A3 s.c3 s.cat s.A4 s.c4 s.cin B W0 hi0 hi0.2.2.2.1 hi0.2.2.2.2 (Nat.le_trans hB K0.out.size) hf hv);have HQ:Hid (ZnB s frame v=Zbr s.fr frame v s.cat s.cin):=Lh rfl;generalize ZnB s frame v=R at *;generalize Zbr s.fr frame v s.cat s.cin=R2 at *;obtain rfl:=HQ.out;simp only [SpL.cells] at b0 hW0 HC ⊢;unfold Zh9 at HC ⊢;obtain ⟨c0,c1,c2,c3,c4⟩:=b0.c5;simp at c0 c1 c2 c3 c4;have hwl:=b0.lt;clear b0 hi hB hf hv hi0 HQ;go_enter Tryz.func33,Tryz.ntmps33
 go_wp2_with first
  | (go_at_call 55; (with_reducible refine HC.out.mono ?_); rintro e w1 ⟨rfl,hb1⟩)
 go_ret2;exact ⟨rfl,K0.out.trans (hb1.mono K0.out.size)⟩
theorem Zq0 (s:SpL) (frame v:Int) (B:Nat) (w:World) (hi:s.In w B) (hB:B≤w.heap.size) (hf:Zy frame) (hv:Zy v) :
  Calls Tryz.prog 35 #[.agg s.cells,.int .i64 frame,.int .i64 v] w (Zu (Zh9 (ZnB s frame v)) w):=by
 obtain ⟨W0,hW0⟩:∃ W,w.alloc (.cells s.cells 38)=W:=⟨_,rfl⟩
 have K0:Hid (Below w.heap.size w W0):=Lh (by rw [← hW0]; exact (Below.refl _ _).alloc (Nat.le_refl _) _)
 have b0:Blk W0 w.heap.size 38 s.cells:=by rw [← hW0]; exact Blk.new _ _ _
 have hi0:=hi.below (K0.out.mono hB);have HC:=Lh (ZqY s frame v s.A3 s.c3 s.cat s.A4 s.c4 s.cin B W0 hi0 hi0.2.2.2.1 hi0.2.2.2.2 (Nat.le_trans hB K0.out.size) hf hv);have HQ:Hid (ZnB s frame v=Zbr s.fr frame v s.cat s.cin):=Lh rfl;generalize ZnB s frame v=R at *;generalize Zbr s.fr frame v s.cat s.cin=R2 at *;obtain rfl:=HQ.out;simp only [SpL.cells] at b0 hW0 HC ⊢;unfold Zh9 at HC ⊢;obtain ⟨c0,c1,c2,c3,c4⟩:=b0.c5;simp at c0 c1 c2 c3 c4;have hwl:=b0.lt;clear b0 hi hB hf hv hi0 HQ;go_enter Tryz.func35,Tryz.ntmps35
 go_wp2_with first
  | (go_at_call 56; (with_reducible refine HC.out.mono ?_); rintro e w1 ⟨rfl,hb1⟩)
 go_ret2;exact ⟨rfl,K0.out.trans (hb1.mono K0.out.size)⟩
theorem ZqZ (s:SpL) (frame v:Int) (B:Nat) (w:World) (hi:s.In w B) (hB:B≤w.heap.size) (hf:Zy frame) (hv:Zy v) :
  Calls Tryz.prog 9 #[.agg s.cells,.int .i64 frame,.int .i64 v] w (Zu (.bool true) w):=by
 obtain ⟨W0,hW0⟩:∃ W,w.alloc (.cells s.cells 38)=W:=⟨_,rfl⟩
 have K0:Hid (Below w.heap.size w W0):=Lh (by rw [← hW0]; exact (Below.refl _ _).alloc (Nat.le_refl _) _);have HB0:Hid (Blk W0 w.heap.size 38 s.cells):=Lh (by rw [← hW0]; exact Blk.new _ _ _)
 obtain ⟨x,hx⟩:∃ x,(Zph s frame v).getD 0=x:=⟨_,rfl⟩
 obtain ⟨p,hp⟩:∃ x,(Zph s frame v).isSome=x:=⟨_,rfl⟩
 obtain ⟨y,hy⟩:∃ x,(ZnB s frame v).getD 0=x:=⟨_,rfl⟩
 obtain ⟨q,hq⟩:∃ x,(ZnB s frame v).isSome=x:=⟨_,rfl⟩
 have base:∀ W,Below w.heap.size w W→s.In W B∧B≤W.heap.size:=fun W h=>⟨hi.below (h.mono hB),Nat.le_trans hB h.size⟩
 have H1:Hid (∀ W,Below w.heap.size w W→Calls Tryz.prog 32 #[.agg s.cells,.int .i64 frame,.int .i64 v] W (Zu (.tuple #[.int .i64 x,.bool p]) W)):=Lh fun W h=>by
  have:=Zq3 s frame v B W (base W h).1 (base W h).2 hf hv;unfold Zh9 at this
  rwa [hx,hp] at this
 have H2:Hid (∀ W,Below w.heap.size w W→Calls Tryz.prog 34 #[.agg s.cells,.int .i64 frame,.int .i64 v] W (Zu (.tuple #[.int .i64 x,.bool p]) W)):=Lh fun W h=>by
  have:=Zq2 s frame v B W (base W h).1 (base W h).2 hf hv;unfold Zh9 at this
  rwa [hx,hp] at this
 have H3:Hid (∀ W,Below w.heap.size w W→Calls Tryz.prog 33 #[.agg s.cells,.int .i64 frame,.int .i64 v] W (Zu (.tuple #[.int .i64 y,.bool q]) W)):=Lh fun W h=>by
  have:=Zon s frame v B W (base W h).1 (base W h).2 hf hv;unfold Zh9 at this
  rwa [hy,hq] at this
 have H4:Hid (∀ W,Below w.heap.size w W→Calls Tryz.prog 35 #[.agg s.cells,.int .i64 frame,.int .i64 v] W (Zu (.tuple #[.int .i64 y,.bool q]) W)):=Lh fun W h=>by
  have:=Zq0 s frame v B W (base W h).1 (base W h).2 hf hv;unfold Zh9 at this
  rwa [hy,hq] at this
 clear hx hp hy hq base hi hf hv;simp only [SpL.cells] at hW0 HB0 H1 H2 H3 H4 ⊢;have b0:=HB0.out;have hl0:=b0.lt;obtain ⟨c0,c1,c2,c3,c4⟩:=b0.c5;simp at c0 c1 c2 c3 c4;clear b0;go_enter Tryz.func9,Tryz.ntmps9
 go_upto_region 1 with fail
 clear hW0
 go_upto_region 5 with (first
  | (go_at_call 32; (with_reducible refine (H1.out _ K0.out).mono ?_); rintro e1 w1 ⟨rfl,k1⟩
     have K1:=Lh (K0.out.trans (k1.mono K0.out.size));have b1:=HB0.out.call k1;have HB1:=Lh b1;have hl1:=b1.lt;obtain ⟨d0,d1,d2,d3,d4⟩:=b1.c5;simp at d0 d1 d2 d3 d4
     clear b1 k1)
  | (go_at_call 34; (with_reducible refine (H2.out _ K1.out).mono ?_); rintro e1 w2 ⟨rfl,k2⟩
     have K2:=Lh (K1.out.trans (k2.mono K1.out.size));have b1:=HB1.out.call k2;have HB2:=Lh b1;have hl2:=b1.lt;obtain ⟨e0,e1,e2,e3,e4⟩:=b1.c5;simp at e0 e1 e2 e3 e4
     clear b1 k2)
  | (go_at_call 33; (with_reducible refine (H3.out _ K2.out).mono ?_); rintro e1 w3 ⟨rfl,k3⟩
     have K3:=Lh (K2.out.trans (k3.mono K2.out.size));have b1:=HB2.out.call k3;have hl3:=b1.lt;obtain ⟨f0,f1,f2,f3,f4⟩:=b1.c5;simp at f0 f1 f2 f3 f4
     clear b1 k3)
  | (go_at_call 35; (with_reducible refine (H4.out _ K3.out).mono ?_); rintro e1 w4 ⟨rfl,k4⟩
     have K4:=Lh (K3.out.trans (k4.mono K3.out.size))
     clear k4))
 have hxx:(x == x)=true:=by simp
 have hyy:(y == y)=true:=by simp
 have hpp:(p == p)=true:=by simp
 have hqq:(q == q)=true:=by simp
 go_wp2_with fail
 go_ret;exact ⟨by simp,K4.out⟩
theorem ZgJ (w:World) (n:Nat) (a b c d e:Int):(Op.equalIn (n+3) 74 (.agg #[.int .i64 a,.int .i64 b,.int .i64 c,.int .i64 d,.int .i64 e]) (.agg #[.int .i64 a,.int .i64 b,.int .i64 c,.int .i64 d,.int .i64 e])).run Tryz.prog w = .ok true w:=by
 rw [run_equalIn_struct w (n+2) 74 _ _ (by kernel_rfl) (by kernel_rfl)]
 have hf:(Tryz.prog.fieldsOf 74).toList=[⟨ "Parent",3,0,false,"","",0⟩,⟨ "Down",3,1,false,"","",8⟩,⟨ "Above",3,2,false,"","",16⟩,⟨ "Below",3,3,false,"","",24⟩,⟨ "Temp",3,4,false,"","",32⟩]:=by kernel_rfl
 rw [hf];have u3:=Tryz.underlying3
 simp [Op.eqFields,part,run_equalIn_int _ _ _ _ _ _ _ u3]
@[go_sem ↓] theorem Zp3 (w:World) (a b c d e:Int):(binOp .neq 74 (.agg #[.int .i64 a,.int .i64 b,.int .i64 c,.int .i64 d,.int .i64 e]) (.agg #[.int .i64 a,.int .i64 b,.int .i64 c,.int .i64 d,.int .i64 e])).run Tryz.prog w = .ok (.bool false) w:=by
 simp only [binOp]
 simp [Op.equal,Op.maxDepth,ZgJ w 9997]
@[go_sem ↓] theorem ZoV (w:World) (op:BinOp) (x y:Operand) (xs ys:Array Value):(eqGuard op 74 x y (.agg xs) (.agg ys)).run Tryz.prog w = .ok () w :=
 run_eqGuard_agg w op 74 x y xs ys (by kernel_rfl)
section
def ZdS (Af A1 A2 A3 A4:Option Addr) (cf c1 c2 c3 c4:Nat):SpL:=⟨Af,cf,Zdz.fr,A1,c1,Zdz.vat,A2,c2,Zdz.vin,A3,c3,Zdz.cat,A4,c4,Zdz.cin⟩
def someC (Af A1 A2 A3 A4:Option Addr) (cf c1 c2 c3 c4:Nat):Array Value:=#[.slice Af 3 cf,.slice A1 3 c1,.slice A2 3 c2,.slice A3 3 c3,.slice A4 3 c4]
theorem Zju {a1 a2 a3 a4 a5 a6 a7 a8 a9 av ac:Option Addr} {w:World} (hin:(ZbG a1 a2 a3 a4 a5 a6 a7 a8 a9 av ac).In w w.heap.size) (hqB:Zae < w.heap.size) (hq:ZP w) :
  Calls Tryz.prog 5 #[.agg (ZbG a1 a2 a3 a4 a5 a6 a7 a8 a9 av ac).flat,.int .i64 0] w (fun e w'=>∃ Af A1 A2 A3 A4 cf c1 c2 c3 c4,e = .returned (.tuple #[.agg #[.slice Af 3 cf,.slice A1 3 c1,.slice A2 3 c2,.slice A3 3 c3,.slice A4 3 c4],.int .i64 0])∧Hid ((ZdS Af A1 A2 A3 A4 cf c1 c2 c3 c4).In w' w'.heap.size)∧Hid (Below w.heap.size w w')) :=
 (Zpz _ 0 w.heap.size w hin (Nat.le_refl _) (by simp [ZbG]) i0 hqB hq).mono fun e w' hr=>by
  rw [ZjA] at hr;obtain ⟨⟨Af,cf,fr,A1,c1,vat,A2,c2,vin,A3,c3,cat,A4,c4,cin⟩,rfl,⟨h1,h2,h3,h4,h5⟩,hs,hb⟩:=hr
  simp only at h1 h2 h3 h4 h5
  subst h1 h2 h3 h4 h5;exact ⟨Af,A1,A2,A3,A4,cf,c1,c2,c3,c4,rfl,Lh hs,Lh hb⟩
section
variable {Af A1 A2 A3 A4:Option Addr} {cf c1 c2 c3 c4:Nat}
theorem Zd3 {f:FuncId} {a:Array Value} {w:World} {o o':Option Int} (h:Calls Tryz.prog f a w (Zu (Zh9 o) w)) (e:o=o'):Calls Tryz.prog f a w (Zu (Zh9 o') w):=e ▸ h
theorem Zd2 {w:World} {B:Nat} (h:(ZdS Af A1 A2 A3 A4 cf c1 c2 c3 c4).In w B) (hB:B≤w.heap.size) :
  Calls Tryz.prog 32 #[.agg #[.slice Af 3 cf,.slice A1 3 c1,.slice A2 3 c2,.slice A3 3 c3,.slice A4 3 c4],.int .i64 2,.int .i64 0] w (Zu (.tuple #[.int .i64 25,.bool true]) w) ∧
  Calls Tryz.prog 32 #[.agg #[.slice Af 3 cf,.slice A1 3 c1,.slice A2 3 c2,.slice A3 3 c3,.slice A4 3 c4],.int .i64 2,.int .i64 2] w (Zu (.tuple #[.int .i64 5,.bool true]) w) ∧
  Calls Tryz.prog 33 #[.agg #[.slice Af 3 cf,.slice A1 3 c1,.slice A2 3 c2,.slice A3 3 c3,.slice A4 3 c4],.int .i64 1,.int .i64 2] w (Zu (.tuple #[.int .i64 12,.bool true]) w) ∧
  Calls Tryz.prog 32 #[.agg #[.slice Af 3 cf,.slice A1 3 c1,.slice A2 3 c2,.slice A3 3 c3,.slice A4 3 c4],.int .i64 1,.int .i64 2] w (Zu (.tuple #[.int .i64 0,.bool false]) w) :=
 ⟨Zd3 (o':=some 25) (Zq3 (ZdS Af A1 A2 A3 A4 cf c1 c2 c3 c4) 2 0 B w h hB i2 i0) (by simp [Zph,Zbr,upF,ZdS,Zdz,wrap64]),Zd3 (o':=some 5) (Zq3 (ZdS Af A1 A2 A3 A4 cf c1 c2 c3 c4) 2 2 B w h hB i2 i2) (by simp [Zph,Zbr,upF,ZdS,Zdz,wrap64]),
  Zd3 (o':=some 12) (Zon (ZdS Af A1 A2 A3 A4 cf c1 c2 c3 c4) 1 2 B w h hB i1 i2) (by simp [ZnB,Zbr,upF,ZdS,Zdz,wrap64]),Zd3 (o':=none) (Zq3 (ZdS Af A1 A2 A3 A4 cf c1 c2 c3 c4) 1 2 B w h hB i1 i2) (by simp [Zph,Zbr,upF,ZdS,Zdz,wrap64])⟩
structure WkX (w:World) (g B:Nat) (Af A1 A2 A3 A4:Option Addr) (cf c1 c2 c3 c4:Nat) (W:World):Prop where
 bel:Below w.heap.size w W
 blk:Blk W g 38 #[.slice Af 3 cf,.slice A1 3 c1,.slice A2 3 c2,.slice A3 3 c3,.slice A4 3 c4]
 s:(ZdS Af A1 A2 A3 A4 cf c1 c2 c3 c4).In W B
 hB:B≤W.heap.size
theorem WkX.call {w W W':World} {g B:Nat} (h:WkX w g B Af A1 A2 A3 A4 cf c1 c2 c3 c4 W) (hb:Below W.heap.size W W'):WkX w g B Af A1 A2 A3 A4 cf c1 c2 c3 c4 W' :=
 ⟨h.bel.trans (hb.mono h.bel.size),h.blk.call hb,h.s.below (hb.mono h.hB),Nat.le_trans h.hB hb.size⟩
theorem WkX.start {w w1 W:World} (hb:Below w.heap.size w w1) (h:(ZdS Af A1 A2 A3 A4 cf c1 c2 c3 c4).In w1 w1.heap.size) (hW:w1.alloc (.cells #[.slice Af 3 cf,.slice A1 3 c1,.slice A2 3 c2,.slice A3 3 c3,.slice A4 3 c4] 38)=W) :
  WkX w w1.heap.size w1.heap.size Af A1 A2 A3 A4 cf c1 c2 c3 c4 W:=by
 have k:Below w1.heap.size w1 W:=by rw [← hW]; exact (Below.refl _ _).alloc (Nat.le_refl _) _
 exact ⟨hb.trans (k.mono hb.size),by rw [← hW]; exact Blk.new _ _ _,h.below k,k.size⟩
theorem WkX.cells {w W:World} {g B:Nat} (h:WkX w g B Af A1 A2 A3 A4 cf c1 c2 c3 c4 W):∃ b o,Af=some ⟨b,o,none⟩∧b < W.heap.size ∧
  W.cell? ⟨b,o,none⟩=some (.int .i64 (-1))∧W.cell? ⟨b,o+1,none⟩=some (.int .i64 0)∧W.cell? ⟨b,o+2,none⟩=some (.int .i64 5)∧W.cell? ⟨b,o+3,none⟩=some (.int .i64 28)∧W.cell? ⟨b,o+4,none⟩=some (.int .i64 4) ∧
  W.cell? ⟨b,o+5,none⟩=some (.int .i64 0)∧W.cell? ⟨b,o+6,none⟩=some (.int .i64 9)∧W.cell? ⟨b,o+7,none⟩=some (.int .i64 4)∧W.cell? ⟨b,o+8,none⟩=some (.int .i64 5)∧W.cell? ⟨b,o+9,none⟩=some (.int .i64 2) ∧
  W.cell? ⟨b,o+10,none⟩=some (.int .i64 0)∧W.cell? ⟨b,o+11,none⟩=some (.int .i64 23)∧W.cell? ⟨b,o+12,none⟩=some (.int .i64 9)∧W.cell? ⟨b,o+13,none⟩=some (.int .i64 5)∧W.cell? ⟨b,o+14,none⟩=some (.int .i64 6):=by
 obtain ⟨b,o,x,hx,hb,hv,-,x0,x1,x2,x3,x4⟩:=Zj6 h.s (k:=0) (by simp [ZdS,Zdz]);obtain ⟨b',o',y,hy,-,hv',-,y0,y1,y2,y3,y4⟩:=Zj6 h.s (k:=1) (by simp [ZdS,Zdz]);obtain ⟨b2,o2,z,hz,-,hv2,-,z0,z1,z2,z3,z4⟩:=Zj6 h.s (k:=2) (by simp [ZdS,Zdz]);rw [hx] at hy hz
 injection hy with hy
 injection hy with hy1 hy2
 injection hz with hz
 injection hz with hz1 hz2
 subst hy1 hy2 hz1 hz2
 injection hv with hv
 injection hv' with hv'
 injection hv2 with hv2
 subst hv hv' hv2;exact ⟨b,o,hx,Nat.lt_of_lt_of_le hb h.hB,x0,x1,x2,x3,x4,y0,y1,y2,y3,y4,z0,z1,z2,z3,z4⟩
end
@[go_sem ↓] theorem Zp4 (w:World) (a b c d e:Int):(binOp .eql 74 (.agg #[.int .i64 a,.int .i64 b,.int .i64 c,.int .i64 d,.int .i64 e]) (.agg #[.int .i64 a,.int .i64 b,.int .i64 c,.int .i64 d,.int .i64 e])).run Tryz.prog w = .ok (.bool true) w:=by
 simp only [binOp]
 simp [Op.equal,Op.maxDepth,ZgJ w 9997]
theorem Zna (w:World) (hqB:Zae < w.heap.size) (hq:ZP w):Calls Tryz.prog 8 #[] w (Zu (.bool true) w):=by
 have HQ:Hid (∀ W,Below w.heap.size w W→Zae < W.heap.size∧ZP W):=Lh fun W h=>⟨Nat.lt_of_lt_of_le hqB h.size,hq.below h hqB⟩
 clear hq;go_enter Tryz.func8,Tryz.ntmps8
 go_upto_region 1 with fail
 go_upto_region 2 with (first
  | (go_at_call 31; (refine (ZoD _).mono ?_); rintro e1 w1 ⟨a1,a2,a3,a4,a5,a6,a7,a8,a9,av,ac,rfl,HK,K1⟩)
  | (go_at_call 5; (with_reducible refine (Zju HK.out (HQ.out _ K1.out).1 (HQ.out _ K1.out).2).mono ?_); rintro e2 w2 ⟨Af,A1,A2,A3,A4,cf,c1,c2,c3,c4,rfl,HS,K2⟩))
 obtain ⟨W2,hW2⟩:∃ X,w2.alloc (.cells #[.slice Af 3 cf,.slice A1 3 c1,.slice A2 3 c2,.slice A3 3 c3,.slice A4 3 c4] 38)=X:=⟨_,rfl⟩
 have S:=Lh (WkX.start (K1.out.trans (K2.out.mono K1.out.size)) HS.out hW2);rw [hW2]
 obtain ⟨z,hz⟩:∃ z,w2.heap.size=z:=⟨_,rfl⟩
 rw [hz] at S ⊢;clear hW2 hz HS K1 K2 HK HQ;have b:=S.out.blk;have hlz:=b.lt;obtain ⟨k0,k1,k2,k3,k4⟩:=b.c5;simp at k0 k1 k2 k3 k4;clear b
 go_upto_region 4 with fail
 have hx:=S.out.cells;obtain ⟨xb,xo,rfl,hxl,x0,x1,x2,x3,x4,y0,y1,y2,y3,y4,u0,u1,u2,u3,u4⟩:=hx
 go_upto_region 5 with fail
 clear x0 x1 x2 x3 x4 y0 y1 y2 y3 y4 u0 u1 u2 u3 u4
 go_upto_region 9 with (first
  | (go_at_call 32; (with_reducible refine (Zd2 S.out.s S.out.hB).1.mono ?_); rintro e3 w3 ⟨rfl,k3⟩
     have S3:=Lh (S.out.call k3);have b3:=S3.out.blk;have hlz3:=b3.lt;obtain ⟨m0,m1,m2,m3,m4⟩:=b3.c5;simp at m0 m1 m2 m3 m4
     clear b3 k3)
  | (go_at_call 32; (with_reducible refine (Zd2 S3.out.s S3.out.hB).2.1.mono ?_); rintro e4 w4 ⟨rfl,k4⟩
     have S4:=Lh (S3.out.call k4);have b4:=S4.out.blk;have hlz4:=b4.lt;obtain ⟨n0,n1,n2,n3,n4⟩:=b4.c5;simp at n0 n1 n2 n3 n4
     clear b4 k4)
  | (go_at_call 33; (with_reducible refine (Zd2 S4.out.s S4.out.hB).2.2.1.mono ?_); rintro e5 w5 ⟨rfl,k5⟩
     have S5:=Lh (S4.out.call k5);have b5:=S5.out.blk;have hlz5:=b5.lt;obtain ⟨p0,p1,p2,p3,p4⟩:=b5.c5;simp at p0 p1 p2 p3 p4
     clear b5 k5)
  | (go_at_call 32; (with_reducible refine (Zd2 S5.out.s S5.out.hB).2.2.2.mono ?_); rintro e6 w6 ⟨rfl,k6⟩
     have S6:=Lh (S5.out.call k6);have b6:=S6.out.blk;have hlz6:=b6.lt;obtain ⟨q0,q1,q2,q3,q4⟩:=b6.c5;simp at q0 q1 q2 q3 q4
     clear b6 k6))
 have HF:=Lh S6.out.bel
 go_wp2_with fail
 go_ret;exact ⟨rfl,HF.out⟩
end
structure MkV (w:World) (kc:Array Value) (g B:Nat) (s:SpL) (W:World):Prop where
 bel:Below w.heap.size w W
 kb:Blk W w.heap.size 34 kc
 sb:Blk W g 38 #[.slice s.Af s.fr.length s.cf,.slice s.A1 s.vat.length s.c1,.slice s.A2 s.vin.length s.c2,.slice s.A3 s.cat.length s.c3,.slice s.A4 s.cin.length s.c4]
 si:s.In W B
 hB:B≤W.heap.size
theorem MkV.call {w W W':World} {kc:Array Value} {g B:Nat} {s:SpL} (h:MkV w kc g B s W) (hb:Below W.heap.size W W'):MkV w kc g B s W' :=
 ⟨h.bel.trans (hb.mono h.bel.size),h.kb.call hb,h.sb.call hb,h.si.below (hb.mono h.hB),Nat.le_trans h.hB hb.size⟩
theorem MkV.start {w w1 W:World} {kc:Array Value} {s:SpL} (hb:Below w.heap.size w w1) (hk:Blk w1 w.heap.size 34 kc) (hs:s.In w1 w1.heap.size)
  (hW:w1.alloc (.cells #[.slice s.Af s.fr.length s.cf,.slice s.A1 s.vat.length s.c1,.slice s.A2 s.vin.length s.c2,.slice s.A3 s.cat.length s.c3,.slice s.A4 s.cin.length s.c4] 38)=W):MkV w kc w1.heap.size w1.heap.size s W:=by
 have k:Below w1.heap.size w1 W:=by rw [← hW]; exact (Below.refl _ _).alloc (Nat.le_refl _) _
 exact ⟨hb.trans (k.mono hb.size),hk.call k,by rw [← hW]; exact Blk.new _ _ _,hs.below k,k.size⟩
def RetM (q:ZdL) (e':Int) (w:World) (e:Ending) (w':World):Prop:=∃ s:SpL,e = .returned (.tuple #[.agg #[.slice s.Af s.fr.length s.cf,.slice s.A1 s.vat.length s.c1,.slice s.A2 s.vin.length s.c2,.slice s.A3 s.cat.length s.c3,.slice s.A4 s.cin.length s.c4],.int .i64 e']) ∧
 Hid ((s.fr=q.fr∧s.vat=q.vat∧s.vin=q.vin∧s.cat=q.cat∧s.cin=q.cin)∧s.In w' w'.heap.size)∧Hid (Below w.heap.size w w')
theorem retM {q:ZdL×Int} {w:World} {e:Ending} {w':World} (h:ZeQ q w e w'):RetM q.1 q.2 w e w':=by
 obtain ⟨s,rfl,h1,h2,h3⟩:=h;exact ⟨s,rfl,Lh ⟨h1,h2⟩,Lh h3⟩
theorem SpL.In.more {s:SpL} {w:World} {B B':Nat} (h:s.In w B) (hB:B≤B'):s.In w B' :=
 ⟨⟨h.1.1,h.1.2.1.more hB,h.1.2.2⟩,⟨h.2.1.1,h.2.1.2.1.more hB,h.2.1.2.2⟩,⟨h.2.2.1.1,h.2.2.1.2.1.more hB,h.2.2.1.2.2⟩,⟨h.2.2.2.1.1,h.2.2.2.1.2.1.more hB,h.2.2.2.1.2.2⟩,⟨h.2.2.2.2.1,h.2.2.2.2.2.1.more hB,h.2.2.2.2.2.2⟩⟩
def spC (s:SpL):Array Value:=#[.slice s.Af s.fr.length s.cf,.slice s.A1 s.vat.length s.c1,.slice s.A2 s.vin.length s.c2,.slice s.A3 s.cat.length s.c3,.slice s.A4 s.cin.length s.c4]
structure FnV (w:World) (g B2:Nat) (s t:SpL) (W:World):Prop where
 bel:Below w.heap.size w W
 sb:Blk W w.heap.size 38 (spC s)
 tb:Blk W g 38 (spC t)
 ti:t.In W B2
 hB:B2≤W.heap.size
theorem FnV.call {w W W':World} {g B2:Nat} {s t:SpL} (h:FnV w g B2 s t W) (hb:Below W.heap.size W W'):FnV w g B2 s t W' :=
 ⟨h.bel.trans (hb.mono h.bel.size),h.sb.call hb,h.tb.call hb,h.ti.below (hb.mono h.hB),Nat.le_trans h.hB hb.size⟩
theorem FnV.start {w w1 W:World} {s t:SpL} (hb:Below w.heap.size w w1) (hk:Blk w1 w.heap.size 38 (spC s)) (ht:t.In w1 w1.heap.size) (hW:w1.alloc (.cells (spC t) 38)=W):FnV w w1.heap.size w1.heap.size s t W:=by
 have k:Below w1.heap.size w1 W:=by rw [← hW]; exact (Below.refl _ _).alloc (Nat.le_refl _) _
 exact ⟨hb.trans (k.mono hb.size),hk.call k,by rw [← hW]; exact Blk.new _ _ _,ht.below k,k.size⟩
theorem ZqX (s:SpL):s.cells=spC s:=rfl
theorem Zl2 (s:SpL) (B:Nat) (w:World) (hi:s.In w B) (hB:B≤w.heap.size) (a b:Int) (ha:Zy a) (hb:Zy b) :
  Calls Tryz.prog 9 #[.agg (spC s),.int .i64 a,.int .i64 b] w (Zu (.bool true) w):=ZqZ s a b B w hi hB ha hb
theorem Zgm (x:Int):Zy (x % 8):=by
 unfold Zy
 omega
theorem Ziv (s:SpL) (k:KK) (frame v:Int) (f i:Int) (B:Nat) (w:World) (hs:s.In w B) (hin:k.In w B) (hB:B≤w.heap.size) (hfr:Zy frame) (hv:Zy v) (hf:0≤f∧f≤255) (hi:0≤i∧i≤255) (hqB:Zae < B) (hq:ZP w) :
  Calls Tryz.prog 4 #[.agg s.cells,.agg k.flat,.int .i64 frame,.int .i64 v,.int .u8 f,.int .u8 i] w (Zu (.bool true) w):=by
 rw [ZqX]
 obtain ⟨W0,hW0⟩:∃ W,(w.alloc (.cells (spC s) 38)).alloc (.cells k.flat 34)=W:=⟨_,rfl⟩
 have S0:Hid (Below w.heap.size w W0∧Blk W0 w.heap.size 38 (spC s)∧Blk W0 (w.heap.size+1) 34 k.flat):=Lh (by
  rw [← hW0];refine ⟨((Below.refl _ _).alloc (Nat.le_refl _) _).alloc (by simp) _,(Blk.new _ _ _).alloc _,?_⟩;have:=Blk.new (w.alloc (.cells (spC s) 38)) 34 k.flat
  rwa [World.size_alloc] at this)
 have H2:Hid (∀ W,Below w.heap.size w W→Calls Tryz.prog 6 #[.agg k.flat,.int .i64 0] W (RetM (Zcs k 0).1 (Zcs k 0).2 W)):=Lh fun W h =>
  (Zot k 0 B W (hin.below (h.mono hB)) (Nat.le_trans hB h.size) i0).mono fun _ _=>retM
 have H3:Hid (∀ a b,Zy a→Zy b→∀ W,Below w.heap.size w W→Calls Tryz.prog 9 #[.agg (spC s),.int .i64 a,.int .i64 b] W (Zu (.bool true) W)):=Lh fun a b ha hb W h =>
  Zl2 s B W (hs.below (h.mono hB)) (Nat.le_trans hB h.size) a b ha hb
 have H4:Hid (∀ W,Below w.heap.size w W→Calls Tryz.prog 8 #[] W (Zu (.bool true) W)):=Lh fun W h =>
  Zna W (Nat.lt_of_lt_of_le hqB (Nat.le_trans hB h.size)) (hq.below (h.mono hB) hqB)
 obtain ⟨nv,hnv⟩:∃ m,k.vars.length=m:=⟨_,rfl⟩
 obtain ⟨nc,hnc⟩:∃ m,k.chans.length=m:=⟨_,rfl⟩
 obtain ⟨np,hnp⟩:∃ m,k.procs.length=m:=⟨_,rfl⟩
 simp only [KK.flat,spC,hnv,hnc,hnp] at hW0 S0 H2 H3 ⊢;clear hin hnv hnc hnp hq hs;have b0:=S0.out.2.1;have hlt0:=b0.lt;obtain ⟨c0,c1,c2,c3,c4⟩:=b0.c5;simp at c0 c1 c2 c3 c4;have b1:=S0.out.2.2;have hlt1:=b1.lt;obtain ⟨e0,e1,e2,e3,e4,e5,e6,e7,e8,e9,e10⟩:=b1.c11;simp at e0 e1 e2 e3 e4 e5 e6 e7 e8 e9 e10;clear b0 b1;go_enter Tryz.func4,Tryz.ntmps4
 go_upto_region 1 with fail
 clear hW0
 go_upto_region 2 with (go_at_call 6; (with_reducible refine (H2.out _ S0.out.1).mono ?_); rintro e1 w1 ⟨t,rfl,HT,K1⟩)
 obtain ⟨W1,hW1⟩:∃ X,w1.alloc (.cells #[.slice t.Af t.fr.length t.cf,.slice t.A1 t.vat.length t.c1,.slice t.A2 t.vin.length t.c2,.slice t.A3 t.cat.length t.c3,.slice t.A4 t.cin.length t.c4] 38)=X:=⟨_,rfl⟩
 have F:=Lh (FnV.start (S0.out.1.trans (K1.out.mono S0.out.1.size)) (S0.out.2.1.call K1.out) HT.out.2 hW1);rw [hW1]
 obtain ⟨z,hz⟩:∃ z,w1.heap.size=z:=⟨_,rfl⟩
 rw [hz] at F ⊢;clear hW1 hz HT K1 S0 c0 c1 c2 c3 c4 e0 e1 e2 e3 e4 e5 e6 e7 e8 e9 e10 hlt0 hlt1;have H5:Hid (∀ a b,Zy a→Zy b→∀ W,FnV w z z s t W→Calls Tryz.prog 9 #[.agg (spC t),.int .i64 a,.int .i64 b] W (Zu (.bool true) W)):=Lh fun a b ha hb W h=>Zl2 t z W h.ti h.hB a b ha hb;have b0:=F.out.sb;have b1:=F.out.tb;simp only [spC] at b0 b1 H5;have hlt0:=b0.lt;have hlt1:=b1.lt;obtain ⟨c0,c1,c2,c3,c4⟩:=b0.c5;simp at c0 c1 c2 c3 c4;obtain ⟨d0,d1,d2,d3,d4⟩:=b1.c5;simp at d0 d1 d2 d3 d4;clear b0 b1
 go_wp2_with (first
  | (go_at_call 9
     with_reducible refine (H3.out _ _ ?_ ?_ _ F.out.bel).mono ?_
     ·first | exact hfr | exact Zgm f
     ·first | exact hv | exact Zgm i
     rintro e0 w3 ⟨rfl,k0⟩;have F1:=Lh (F.out.call k0);have hF0:=F1.out;have bp0:=hF0.sb;have bq0:=hF0.tb;simp only [spC] at bp0 bq0;have hlp0:=bp0.lt;have hlq0:=bq0.lt;obtain ⟨cm0,cm1,cm2,cm3,cm4⟩:=bp0.c5;simp at cm0 cm1 cm2 cm3 cm4;obtain ⟨cn0,cn1,cn2,cn3,cn4⟩:=bq0.c5;simp at cn0 cn1 cn2 cn3 cn4
     clear bp0 bq0 hF0 k0)
  | (go_at_call 9
     with_reducible refine (H3.out _ _ ?_ ?_ _ F1.out.bel).mono ?_
     ·first | exact hfr | exact Zgm f
     ·first | exact hv | exact Zgm i
     rintro e1 w4 ⟨rfl,k1⟩;have F2:=Lh (F1.out.call k1);have hF1:=F2.out;have bp1:=hF1.sb;have bq1:=hF1.tb;simp only [spC] at bp1 bq1;have hlp1:=bp1.lt;have hlq1:=bq1.lt;obtain ⟨cp0,cp1,cp2,cp3,cp4⟩:=bp1.c5;simp at cp0 cp1 cp2 cp3 cp4;obtain ⟨cq0,cq1,cq2,cq3,cq4⟩:=bq1.c5;simp at cq0 cq1 cq2 cq3 cq4
     clear bp1 bq1 hF1 k1)
  | (go_at_call 9
     with_reducible refine (H5.out _ _ ?_ ?_ _ F2.out).mono ?_
     ·first | exact hfr | exact Zgm f
     ·first | exact hv | exact Zgm i
     rintro e2 w5 ⟨rfl,k2⟩;have F3:=Lh (F2.out.call k2);have hF2:=F3.out;have bp2:=hF2.sb;have bq2:=hF2.tb;simp only [spC] at bp2 bq2;have hlp2:=bp2.lt;have hlq2:=bq2.lt;obtain ⟨cr0,cr1,cr2,cr3,cr4⟩:=bp2.c5;simp at cr0 cr1 cr2 cr3 cr4;obtain ⟨cu0,cu1,cu2,cu3,cu4⟩:=bq2.c5;simp at cu0 cu1 cu2 cu3 cu4
     clear bp2 bq2 hF2 k2)
  | (go_at_call 9
     with_reducible refine (H5.out _ _ ?_ ?_ _ F3.out).mono ?_
     ·first | exact hfr | exact Zgm f
     ·first | exact hv | exact Zgm i
     rintro e3 w6 ⟨rfl,k3⟩;have F4:=Lh (F3.out.call k3);have hF3:=F4.out;have bp3:=hF3.sb;have bq3:=hF3.tb;simp only [spC] at bp3 bq3;have hlp3:=bp3.lt;have hlq3:=bq3.lt;obtain ⟨cx0,cx1,cx2,cx3,cx4⟩:=bp3.c5;simp at cx0 cx1 cx2 cx3 cx4;obtain ⟨cy0,cy1,cy2,cy3,cy4⟩:=bq3.c5;simp at cy0 cy1 cy2 cy3 cy4
     clear bp3 bq3 hF3 k3)
  | (go_at_call 8; (with_reducible refine (H4.out _ F4.out.bel).mono ?_); rintro e9 w9 ⟨rfl,k9⟩; have F5:=Lh (F4.out.bel.trans (k9.mono F4.out.bel.size)); clear k9))
 go_ret;exact ⟨rfl,F5.out⟩
theorem ZkF (s:SpL) (k:KK) (frame v f i:Int) (B:Nat) (w:World) (hs:s.In w B) (hin:k.In w B) (hcap:k.procs.length≤k.cp) (hfr:-9223372036854775808≤frame∧frame≤9223372036854775807) (hv:-9223372036854775808≤v∧v≤9223372036854775807)
  (hf:0≤f∧f≤255) (hi:0≤i∧i≤255) (hq:Zae < w.heap.size∧ZP w) (hB:B≤w.heap.size) :
  Calls Tryz.prog 4 #[.agg s.cells,.agg k.flat,.int .i64 frame,.int .i64 v,.int .u8 f,.int .u8 i] w (Zu (.bool true) w) :=
 Ziv s k frame v f i w.heap.size w (hs.more hB) (hin.more hB) (Nat.le_refl _) hfr hv hf hi hq.1 hq.2
section
open Go.ChangeShapes Go.WideShapes Go.ChangeAt Go.RowKit
theorem Zin {a:Int} (h:(Lit.int .u8 a).wf=true):0≤a∧a≤255:=by
 have:=(Lit.wf_int_iff _ _).1 h
 simp [IntKind.min,IntKind.max,IntKind.signed,IntKind.bits] at this
 omega
theorem Tryz.own:ownKnob Tryz.prog.godebug=none:=by kernel_rfl
theorem Tryz.laidOut:laidOutB Tryz.prog=true:=by kernel_rfl
abbrev Zim:List (String×DataW Unit):=Rows.spaceMakesRow.laid
theorem Zm8 (os:Os) (args:Array Value):laidMetH Tryz.prog Zim ((World.laidAll Tryz.prog os Zim).forCall (fun _ _=>0) ⟨#[],args,[]⟩).memory:=by
 rw [MakeChecks.laidMetH_plain _ _ _ (by kernel_rfl)];exact laidMet_laidAll _ (by kernel_rfl) (by kernel_rfl)
theorem Zpn {w:World} {n:String} {cs:Array Value} {g:Nat} (hg:Tryz.prog.globalNamed n=some g) (h:w.var? Tryz.prog n=some cs):g < w.heap.size:=by
 unfold World.var? at h;simp only [hg,Option.bind_some] at h
 rcases Nat.lt_or_ge g w.heap.size with h' | h'
 ·exact h'
 ·simp [Array.getElem?_eq_none h'] at h
theorem Zj4 {a:Int} (h:(Lit.int .i64 a).wf=true):-9223372036854775808≤a∧a≤9223372036854775807:=ZeZ h
theorem gQ:Tryz.prog.globalNamed "transputer/depth.quiet" = some 0:=by kernel_rfl
theorem Zgl {H:Type} {enc:TypeId×Value→H} {P:Program} {w:World} {base:Nat} {sp:Nat→Bool} {held:Bool} {fuel:Nat} {t e:TypeId} {n:Nat} {cs:List Value} {zs:List Bool} {p:List MemPlace}
  (ht:P.underlying t=some (.array n e)) (he:P.underlying e=some .bool) (hce:P.cellsOf e=1) (hct:P.cellsOf t=n)
  (h:DataW.trod enc P w base sp held fuel t cs=some (.agg (zs.map fun z=>.lit (.bool z)),p)):cs=zs.map fun z=>Value.bool z:=by
 cases fuel with
 | zero=>simp [DataW.trod] at h
 | succ fuel =>
   simp only [DataW.trod,ht,hce,hct,Nat.mul_one] at h
   split at h
   ·rename_i hl;obtain ⟨xs,hm,hx⟩:=Option.map_eq_some_iff.1 h
    have hxs:xs.map (·.1)=zs.map fun z=>(DataW.lit (.bool z):DataW H):=by
     have:=congrArg Prod.fst hx
     simpa using this
    have hxl:xs.length=n:=by simpa using Lib.mapM_length hm
    have hzl:zs.length=n:=by
     have:=congrArg List.length hxs;simp at this
     omega
    apply List.ext_getElem?
    intro i
    by_cases hi:i < n
    ·obtain ⟨b,hb,hf⟩:=Lib.mapM_at hm i i (by simp [hi]);obtain ⟨z,hc,rfl⟩:=DataW.trod_bool he hf
     have h1:cs[i]? = some (.bool z):=by
      have:=congrArg (·[0]?) hc
      simpa [List.getElem?_take,List.getElem?_drop] using this
     have h2:(xs.map (·.1))[i]? = some (DataW.lit (.bool z):DataW H):=by simp [hb]
     rw [hxs] at h2;simp only [List.getElem?_map,Option.map_eq_some_iff,DataW.lit.injEq,Lit.bool.injEq] at h2;obtain ⟨z',hz',rfl⟩:=h2
     simp [h1,hz']
    ·rw [List.getElem?_eq_none (by omega),List.getElem?_eq_none (by simp; omega)]
   ·cases h
def ZnQ:List Bool:=(List.range 27).map Zbp
theorem ZjH:(Rows.laid_transputer_depth_quiet:DataW Unit) = .agg (ZnQ.map fun z=>.lit (.bool z)):=by kernel_rfl
theorem ZgW {W:World} {rest:List (String×DataW Unit)} (h:laidMet Tryz.prog (("transputer/depth.quiet",Rows.laid_transputer_depth_quiet) :: rest) W):W.var? Tryz.prog "transputer/depth.quiet" = some Zgv:=by
 rw [ZjH] at h;obtain ⟨ps,⟨g',t',cs,fuel,p,q,hg',ht',hvar,hd,_,_⟩,_⟩:=h;obtain rfl:=Option.some.inj (gQ.symm.trans hg')
 have hty:(Tryz.prog.globals[0]?).map (·.type)=some 130:=by kernel_rfl
 obtain rfl:=Option.some.inj (hty.symm.trans ht');have hc:=Zgl Tryz.underlying130 Tryz.underlying4 (by kernel_rfl) (by kernel_rfl) hd;rw [hvar]
 congr 1
 apply Array.toList_inj.1
 rw [hc]
 simp [Zgv,ZnQ]
theorem ZjI {w:World} (h:w.var? Tryz.prog "transputer/depth.quiet" = some Zgv):ZP w:=by
 unfold World.var? at h;simp only [gQ,Option.bind_some] at h
 split at h
 ·rename_i o cs t f heq;refine ⟨t,f,?_⟩;obtain rfl:=Option.some.inj h;exact heq
 ·cases h
theorem Zm9 {W:World} (h:laidMetH Tryz.prog Zim W):Zae < W.heap.size∧ZP W:=by
 rw [MakeChecks.laidMetH_plain _ _ _ (by kernel_rfl)] at h;have hq:=ZgW h;exact ⟨Zpn gQ hq,ZjI hq⟩
section
variable {H:Type} {enc:TypeId×Value→H} {w:World} {base:Nat} {sp:Nat→Bool} {held:Bool} {fuel:Nat} {cs:List Value} {y:DataW H×List MemPlace}
theorem fsFr:Tryz.prog.underlying 74=some (.struct #[⟨ "Parent",3,0,false,"","",0⟩,⟨ "Down",3,1,false,"","",8⟩,⟨ "Above",3,2,false,"","",16⟩,⟨ "Below",3,3,false,"","",24⟩,⟨ "Temp",3,4,false,"","",32⟩]):=by kernel_rfl
theorem Zq1:Tryz.prog.underlying 38=some (.struct #[⟨ "Frames",36,0,false,"","",0⟩,⟨ "VarAt",32,1,false,"","",24⟩,⟨ "VarIn",32,2,false,"","",48⟩,⟨ "ChanAt",32,3,false,"","",72⟩,⟨ "ChanIn",32,4,false,"","",96⟩]):=by kernel_rfl
theorem cS1:Tryz.prog.cellsOf 74=5:=by kernel_rfl
theorem cS2:Tryz.prog.cellsOf 36=1:=by kernel_rfl
theorem cS3:Tryz.prog.cellsOf 38=5:=by kernel_rfl
theorem ZqW (h:DataW.trod enc Tryz.prog w base sp held fuel 74 cs=some y):∃ x:FrL,cs=x.cells∧x.Ok:=by
 obtain ⟨f,parts,hf,hl,hy,hx⟩:=Zav fsFr h;rw [cS1] at hl
 match cs,hl with
 | [v0,v1,v2,v3,v4],_ =>
   obtain ⟨z0,h0,-⟩:=hx 0 _ rfl;obtain ⟨z1,h1,-⟩:=hx 1 _ rfl;obtain ⟨z2,h2,-⟩:=hx 2 _ rfl;obtain ⟨z3,h3,-⟩:=hx 3 _ rfl;obtain ⟨z4,h4,-⟩:=hx 4 _ rfl;simp only [cK5] at h0 h1 h2 h3 h4;simp only [List.drop_succ_cons,List.drop_zero,List.take_succ_cons,List.take_zero] at h0 h1 h2 h3 h4;obtain ⟨a0,e0,w0⟩:=ZD Tryz.underlying3 h0;obtain ⟨a1,e1,w1⟩:=ZD Tryz.underlying3 h1;obtain ⟨a2,e2,w2⟩:=ZD Tryz.underlying3 h2;obtain ⟨a3,e3,w3⟩:=ZD Tryz.underlying3 h3;obtain ⟨a4,e4,w4⟩:=ZD Tryz.underlying3 h4
   injection e0 with e0; injection e1 with e1; injection e2 with e2; injection e3 with e3; injection e4 with e4
   subst e0 e1 e2 e3 e4;exact ⟨⟨a0,a1,a2,a3,a4⟩,rfl,ZeZ w0,ZeZ w1,ZeZ w2,ZeZ w3,ZeZ w4⟩
theorem Zg0 (h:DataW.trod enc Tryz.prog w base sp held fuel 32 cs=some y) (hw:ZbU Tryz.prog 32 y.1) :
  ∃ (A:Option Addr) (c:Nat) (l:List Int),cs=[.slice A l.length c]∧Zbf w w.heap.size A l:=by
 obtain ⟨A,c,l,h1,h2,h3,h4⟩:=open_row (α:=Int) (R:=Zy) (cells:=fun (x:Int)=>[Value.int .i64 x]) (size:=1) cK5 (by decide) (fun x=>rfl) Tryz.underlying32 (of_decide_eq_true (by kernel_rfl)) (fun f c z _ h1 h2=>by
  obtain ⟨a,rfl,wa⟩:=ZD Tryz.underlying3 h1
  exact ⟨a,rfl,ZeZ wa⟩) h hw
 refine ⟨A,c,l,h1,h2,?_,h4⟩
 have e:∀ l:List Int,l.flatMap (fun (x:Int)=>[Value.int .i64 x])=ZO l:=by
  intro l
  induction l with
  | nil=>rfl
  | cons a r ih=>rw [List.flatMap_cons,ih]; rfl
 rwa [e] at h3
theorem ZoE (h:DataW.trod enc Tryz.prog w base sp held fuel 38 cs=some y) (hw:ZbU Tryz.prog 38 y.1):∃ s:SpL,cs=s.cells.toList∧s.In w w.heap.size:=by
 obtain ⟨f,parts,hf,hl,hy,hx⟩:=Zav Zq1 h;rw [hy] at hw;rw [cS3] at hl
 match cs,hl with
 | [v0,v1,v2,v3,v4],_ =>
   obtain ⟨z0,h0,q0⟩:=hx 0 _ rfl;obtain ⟨z1,h1,q1⟩:=hx 1 _ rfl;obtain ⟨z2,h2,q2⟩:=hx 2 _ rfl;obtain ⟨z3,h3,q3⟩:=hx 3 _ rfl;obtain ⟨z4,h4,q4⟩:=hx 4 _ rfl;have l0:=hw.part Zq1 (j:=0) rfl q0;have l1:=hw.part Zq1 (j:=1) rfl q1;have l2:=hw.part Zq1 (j:=2) rfl q2;have l3:=hw.part Zq1 (j:=3) rfl q3;have l4:=hw.part Zq1 (j:=4) rfl q4;simp only [cS2,cK19] at h0 h1 h2 h3 h4 l0 l1 l2 l3 l4;simp only [List.drop_succ_cons,List.drop_zero,List.take_succ_cons,List.take_zero] at h0 h1 h2 h3 h4;obtain ⟨A0,c0,x0,e0,n0,r0,i0⟩:=open_row (α:=FrL) (R:=FrL.Ok) (cells:=FrL.cells) (size:=5) cS1 (by decide) FrL.cells_len Tryz.underlying36 (of_decide_eq_true (by kernel_rfl)) (fun f c z _ h1 h2=>ZqW h1) h0 l0;obtain ⟨A1,c1,x1,e1,i1⟩:=Zg0 h1 l1;obtain ⟨A2,c2,x2,e2,i2⟩:=Zg0 h2 l2;obtain ⟨A3,c3,x3,e3,i3⟩:=Zg0 h3 l3;obtain ⟨A4,c4,x4,e4,i4⟩:=Zg0 h4 l4
   injection e0 with e0; injection e1 with e1; injection e2 with e2; injection e3 with e3; injection e4 with e4
   subst e0 e1 e2 e3 e4;exact ⟨{ Af:=A0,cf:=c0,fr:=x0,A1:=A1,c1:=c1,vat:=x1,A2:=A2,c2:=c2,vin:=x2,A3:=A3,c3:=c3,cat:=x3,A4:=A4,c4:=c4,cin:=x4 },rfl,⟨n0,r0,i0⟩,i1,i2,i3,i4⟩
theorem Zij (h:DataW.trod enc Tryz.prog w base sp held fuel 34 cs=some y) (hw:ZbU Tryz.prog 34 y.1):∃ k:KK,cs=k.row∧k.In w w.heap.size∧k.procs.length≤k.cp:=by
 obtain ⟨k,hk,hin⟩:=ZoA h hw;refine ⟨k,hk,hin,?_⟩;obtain ⟨f,parts,hf,hl,hy,hx⟩:=Zav ZoT h;obtain ⟨z3,h3,-⟩:=hx 3 _ rfl;rw [hk] at h3;simp only [cK19] at h3;have h4:=Zge Tryz.underlying32 h3;have e:((k.row.drop 10).take 1)=[.slice k.Ap k.procs.length k.cp]:=rfl
 rcases h4 with h4 | ⟨a,len,cap,f',h4,h5,-⟩
 ·rw [e] at h4
  injection h4 with h4
  injection h4 with _ h6 h7
  omega
 ·rw [e] at h4
  injection h4 with h4
  injection h4 with _ h6 h7
  omega
end
end
end Go.Proofs.YtjndhfcfcedheaaGreatDoor
