/- Texts that belong together: S9 SC VS VT VU VV WQ WR WS WT FS. -/
import Derived.Test.YtjndhfcfcedheaaGreatDoorHK26
import Derived.Test.YtjndhfcfcedheaaGreatDoorHK11
import Derived.Test.YtjndhfcfcedheaaGreatDoorHK4
import Derived.Test.YtjndhfcfcedheaaGreatDoorHK25
import Derived.Test.YtjndhfcfcedheaaGreatDoorHK24
import Derived.Test.YtjndhfcfcedheaaGreatDoorHK3
import Derived.BigQuiet
import Derived.IntWalk
import Derived.Laws.BitsLemmas
import Derived.Laws.Rows
import Derived.Lib.Bytealg
import Derived.Lib.ConvBytes
import Derived.Lib.Hide
import Derived.Lib.IndexBytes
import Derived.Lib.IndexMore
import Derived.Lib.ParseIntB
import Derived.Lib.ParseIntBCases
import Derived.Lib.ParseIntBTie
import Derived.Maps.OwnSet
import Derived.Shelf.Small.Strs
import Derived.Test.YtjndhfcfcedheaaGreatDoorHK10
import Derived.Test.YtjndhfcfcedheaaGreatDoorHK49
import Derived.Test.YtjndhfcfcedheaaGreatDoorHK46
import Derived.Test.YtjndhfcfcedheaaGreatDoorHK47
import Derived.Test.YtjndhfcfcedheaaGreatDoorHK1
import Derived.Test.YtjndhfcfcedheaaGreatDoorHK12
import Derived.Lib.LaidTab
import Derived.Stop.LaidErr
import Derived.LaidMore
import Derived.Lay
import Derived.ProofKit
import Derived.OpenShut
import Derived.DataShut
set_option linter.unusedVariables false
set_option linter.unusedSimpArgs false
set_option maxRecDepth 100000
set_option maxHeartbeats 16000000
namespace Go.Proofs.YtjndhfcfcedheaaGreatDoor
open Go.RowKit
structure RwL where
 A:Option Addr
 c:Nat
 l:List Int
instance:Inhabited RwL:=⟨⟨none,0,[]⟩⟩
def RwL.cells (r:RwL):List Value:=[.slice r.A r.l.length r.c]
def RwL.In (w:World) (B:Nat) (r:RwL):Prop:=ZB r.l∧Zo w B 1 r.A r.l.length (Zpl r.l)∧∀ v∈r.l,is32 v
theorem RwL.In.below {w w':World} {B:Nat} {r:RwL} (h:r.In w B) (hb:Below B w w'):r.In w' B:=⟨h.1,h.2.1.below hb,h.2.2⟩
def ZnB (s:SpL) (frame v:Int):Option Int:=Zbr s.fr frame v s.cat s.cin
theorem Zon (s:SpL) (frame v:Int) (B:Nat) (w:World) (hi:s.In w B) (hB:B≤w.heap.size) (hf:Zy frame) (hv:Zy v) :
  Calls Tryz.prog 33 #[.agg s.cells,.int .i64 frame,.int .i64 v] w (Zu (Zh9 (ZnB s frame v)) w):=by
 obtain ⟨W0,hW0⟩:∃ W,w.alloc (.cells s.cells 38)=W:=⟨_,rfl⟩
 have K0:Hid (Below w.heap.size w W0):=Lh (by rw [← hW0]; exact (Below.refl _ _).alloc (Nat.le_refl _) _)
 have b0:Blk W0 w.heap.size 38 s.cells:=by rw [← hW0]; exact Blk.new _ _ _
 have hi0:=hi.below (K0.out.mono hB);have HC:=Lh (ZkG s frame v s.A3 s.c3 s.cat s.A4 s.c4 s.cin B W0 hi0 hi0.2.2.2.1 hi0.2.2.2.2 (Nat.le_trans hB K0.out.size) hf hv);have HQ:Hid (ZnB s frame v=Zbr s.fr frame v s.cat s.cin):=Lh rfl;generalize ZnB s frame v=R at *;generalize Zbr s.fr frame v s.cat s.cin=R2 at *;obtain rfl:=HQ.out;simp only [SpL.cells] at b0 hW0 HC ⊢;unfold Zh9 at HC ⊢;obtain ⟨c0,c1,c2,c3,c4⟩:=b0.c5;simp at c0 c1 c2 c3 c4;have hwl:=b0.lt;clear b0 hi hB hf hv hi0 HQ;go_enter Tryz.func33,Tryz.ntmps33
 go_wp2_with first
  | (go_at_call 55; (with_reducible refine HC.out.mono ?_); rintro e w1 ⟨rfl,hb1⟩)
 go_ret2;exact ⟨rfl,K0.out.trans (hb1.mono K0.out.size)⟩
theorem Zg0 (l:List Int) (A1 A2:Option Addr) (c1 c2 B:Nat) (w:World) (h1:Zbf w B A1 l) (h2:Zbf w B A2 l) (hB:B≤w.heap.size):Calls Tryz.prog 30 #[.slice A1 l.length c1,.slice A2 l.length c2] w (Zu (.bool true) w):=by
 have H1:=Lh h1;have H2:=Lh h2;have hl:=h1.1;unfold ZB at hl
 obtain ⟨n,hn⟩:∃ n,l.length=n:=⟨_,rfl⟩
 have HN:=Lh hn;rw [hn] at hl ⊢;clear h1 h2 hn
 have hnn:((n:Int) != n)=false:=by simp
 go_enter Tryz.func30,Tryz.ntmps30
 go_wp2_with fail
 go_loopw [13] (fun i wr=>∃ j:Nat,j≤n∧i = .int .i64 j∧Hid (Below w.heap.size w wr)) (fun i _=>n - (intOf i).toNat)
 case atStart=>exact ⟨0,Nat.zero_le _,rfl,Lh (Below.refl _ _)⟩
 case round =>
  obtain ⟨j,hj,rfl,HK⟩:=hrel
  by_cases hlt:j < n
  ·have hltI:(j:Int) < n:=by omega
   obtain ⟨b1,o1,v,rfl,hb1,hv,-,d1⟩:=Zej (H1.out.below (HK.out.mono hB)) (k:=j) (by rw [HN.out]; exact hlt);obtain ⟨b2,o2,v',rfl,hb2,hv',-,d2⟩:=Zej (H2.out.below (HK.out.mono hB)) (k:=j) (by rw [HN.out]; exact hlt);obtain rfl:v=v':=Option.some.inj (hv.symm.trans hv');have hsz:=HK.out.size
   have hw1:b1 < wr.heap.size:=by omega
   have hw2:b2 < wr.heap.size:=by omega
   have hvv:(v != v)=false:=by simp
   clear hv hv'
   go_upto_region 6 with fail
   go_quiet (fail)
   go_wp2_with fail
   go_roundw
   case rel=>exact ⟨j+1,by omega,by go_num,Lh (HK.out.drewN' _)⟩
   case measure=>simp [intOf]; omega
  ·have hltI:¬ (j:Int) < n:=by omega
   obtain rfl:n=j:=by omega
   go_wp2_with fail
   go_ret;exact ⟨rfl,HK.out⟩
theorem ZgJ (w:World) (n:Nat) (a b c d e:Int):(Op.equalIn (n+3) 74 (.agg #[.int .i64 a,.int .i64 b,.int .i64 c,.int .i64 d,.int .i64 e]) (.agg #[.int .i64 a,.int .i64 b,.int .i64 c,.int .i64 d,.int .i64 e])).run Tryz.prog w = .ok true w:=by
 rw [run_equalIn_struct w (n+2) 74 _ _ (by kernel_rfl) (by kernel_rfl)]
 have hf:(Tryz.prog.fieldsOf 74).toList=[⟨ "Parent",3,0,false,"","",0⟩,⟨ "Down",3,1,false,"","",8⟩,⟨ "Above",3,2,false,"","",16⟩,⟨ "Below",3,3,false,"","",24⟩,⟨ "Temp",3,4,false,"","",32⟩]:=by kernel_rfl
 rw [hf];have u3:=Tryz.underlying3
 simp [Op.eqFields,part,run_equalIn_int _ _ _ _ _ _ _ u3]
@[go_sem ↓] theorem Zp3 (w:World) (a b c d e:Int):(binOp .neq 74 (.agg #[.int .i64 a,.int .i64 b,.int .i64 c,.int .i64 d,.int .i64 e]) (.agg #[.int .i64 a,.int .i64 b,.int .i64 c,.int .i64 d,.int .i64 e])).run Tryz.prog w = .ok (.bool false) w:=by
 simp only [binOp]
 simp [Op.equal,Op.maxDepth,ZgJ w 9997]
@[go_sem ↓] theorem ZoV (w:World) (op:BinOp) (x y:Operand) (xs ys:Array Value):(eqGuard op 74 x y (.agg xs) (.agg ys)).run Tryz.prog w = .ok () w :=
 run_eqGuard_agg w op 74 x y xs ys (by kernel_rfl)
theorem ZoE (s t:SpL) (hf:t.fr=s.fr) (h1:t.vat=s.vat) (h2:t.vin=s.vin) (h3:t.cat=s.cat) (h4:t.cin=s.cin) (B:Nat) (w:World) (hs:s.In w B) (ht:t.In w B) (hB:B≤w.heap.size) :
  Calls Tryz.prog 7 #[.agg s.cells,.agg t.cells] w (Zu (.bool true) w):=by
 obtain ⟨W0,hW0⟩:∃ W,(w.alloc (.cells s.cells 38)).alloc (.cells t.cells 38)=W:=⟨_,rfl⟩
 have K0:Hid (Below w.heap.size w W0):=Lh (by rw [← hW0]; exact ((Below.refl _ _).alloc (Nat.le_refl _) _).alloc (by simp) _);have HA:Hid (Blk W0 w.heap.size 38 s.cells):=Lh (by rw [← hW0]; exact (Blk.new _ _ _).alloc _);have HB:Hid (Blk W0 (w.heap.size+1) 38 t.cells):=Lh (by rw [← hW0]; have:=Blk.new (w.alloc (.cells s.cells 38)) 38 t.cells; rwa [World.size_alloc] at this);obtain ⟨Af,cf,fr,A1,c1,vat,A2,c2,vin,A3,c3,cat,A4,c4,cin⟩:=s;obtain ⟨Bf,df,fr',B1,d1,vat',B2,d2,vin',B3,d3,cat',B4,d4,cin'⟩:=t
 simp only at hf h1 h2 h3 h4
 subst hf h1 h2 h3 h4;have HS:=Lh hs;have HT:=Lh ht;have hl0:=hs.1.1;unfold ZB at hl0
 simp only at hl0
 have base:∀ W,Below w.heap.size w W→Below B w W∧B≤W.heap.size:=fun W h=>⟨h.mono hB,Nat.le_trans hB h.size⟩
 have HI1:Hid (∀ W,Below w.heap.size w W→Calls Tryz.prog 30 #[.slice A1 vat'.length c1,.slice B1 vat'.length d1] W (Zu (.bool true) W)):=Lh fun W h=>Zg0 vat' A1 B1 c1 d1 B W (hs.2.1.below (base W h).1) (ht.2.1.below (base W h).1) (base W h).2;have HI2:Hid (∀ W,Below w.heap.size w W→Calls Tryz.prog 30 #[.slice A2 vin'.length c2,.slice B2 vin'.length d2] W (Zu (.bool true) W)):=Lh fun W h=>Zg0 vin' A2 B2 c2 d2 B W (hs.2.2.1.below (base W h).1) (ht.2.2.1.below (base W h).1) (base W h).2;have HI3:Hid (∀ W,Below w.heap.size w W→Calls Tryz.prog 30 #[.slice A3 cat'.length c3,.slice B3 cat'.length d3] W (Zu (.bool true) W)):=Lh fun W h=>Zg0 cat' A3 B3 c3 d3 B W (hs.2.2.2.1.below (base W h).1) (ht.2.2.2.1.below (base W h).1) (base W h).2;have HI4:Hid (∀ W,Below w.heap.size w W→Calls Tryz.prog 30 #[.slice A4 cin'.length c4,.slice B4 cin'.length d4] W (Zu (.bool true) W)):=Lh fun W h=>Zg0 cin' A4 B4 c4 d4 B W (hs.2.2.2.2.below (base W h).1) (ht.2.2.2.2.below (base W h).1) (base W h).2
 obtain ⟨n,hn⟩:∃ n,fr'.length=n:=⟨_,rfl⟩
 have HN:=Lh hn;simp only [SpL.cells,hn] at hW0 HA HB ⊢;rw [hn] at hl0;clear hs ht base hn;have a0:=HA.out;have b0:=HB.out;have la:=a0.lt;have lb:=b0.lt;obtain ⟨e0,e1,e2,e3,e4⟩:=a0.c5;simp at e0 e1 e2 e3 e4;obtain ⟨f0,f1,f2,f3,f4⟩:=b0.c5;simp at f0 f1 f2 f3 f4;clear a0 b0
 have hnn:((n:Int) != n)=false:=by simp
 go_enter Tryz.func7,Tryz.ntmps7
 go_upto_region 1 with fail
 clear hW0
 go_wp2_with fail
 go_loopw [16] (fun i wr=>∃ j:Nat,j≤n∧i = .int .i64 j∧Hid (Below w.heap.size w wr∧Blk wr w.heap.size 38 #[.slice Af n cf,.slice A1 vat'.length c1,.slice A2 vin'.length c2,.slice A3 cat'.length c3,.slice A4 cin'.length c4]∧Blk wr (w.heap.size+1) 38 #[.slice Bf n df,.slice B1 vat'.length d1,.slice B2 vin'.length d2,.slice B3 cat'.length d3,.slice B4 cin'.length d4])) (fun i _=>n - (intOf i).toNat)
 case atStart=>exact ⟨0,Nat.zero_le _,rfl,Lh ⟨K0.out,HA.out,HB.out⟩⟩
 case round =>
  clear e0 e1 e2 e3 e4 f0 f1 f2 f3 f4 la lb HA HB K0;obtain ⟨j,hj,rfl,HK⟩:=hrel;have a0:=HK.out.2.1;have b0:=HK.out.2.2;have la:=a0.lt;have lb:=b0.lt;obtain ⟨e0,e1,e2,e3,e4⟩:=a0.c5;simp at e0 e1 e2 e3 e4;obtain ⟨f0,f1,f2,f3,f4⟩:=b0.c5;simp at f0 f1 f2 f3 f4;clear a0 b0
  by_cases hlt:j < n
  ·have hltI:(j:Int) < n:=by omega
   obtain ⟨b1,o1,x,hx1,hb1,hv,-,x0,x1,x2,x3,x4⟩:=Zj6 (HS.out.below (HK.out.1.mono hB)) (k:=j) (by show j < fr'.length; rw [HN.out]; exact hlt);obtain ⟨b2,o2,x',hx2,hb2,hv',-,y0,y1,y2,y3,y4⟩:=Zj6 (HT.out.below (HK.out.1.mono hB)) (k:=j) (by show j < fr'.length; rw [HN.out]; exact hlt)
   simp only at hx1 hx2 hv hv'
   subst hx1 hx2;obtain rfl:x=x':=Option.some.inj (hv.symm.trans hv');have hsz:=HK.out.1.size
   have hw1:b1 < wr.heap.size:=by omega
   have hw2:b2 < wr.heap.size:=by omega
   clear hv hv'
   go_upto_region 6 with fail
   go_quiet (fail)
   go_wp2_with fail
   go_roundw
   case rel=>exact ⟨j+1,by omega,by go_num,Lh ⟨HK.out.1.drewN' _,HK.out.2.1,HK.out.2.2⟩⟩
   case measure=>simp [intOf]; omega
  ·have hltI:¬ (j:Int) < n:=by omega
   obtain rfl:n=j:=by omega
   have HK1:=Lh HK.out.1
   go_wp2_with (first
    | (go_at_call 30; (with_reducible refine (HI1.out _ HK1.out).mono ?_); rintro e9 w1 ⟨rfl,k1⟩
       have HK2:=Lh (HK1.out.trans (k1.mono HK1.out.size));have a0:=HK.out.2.1.call k1;have b0:=HK.out.2.2.call k1;have A0:=Lh a0;have B0:=Lh b0;have la1:=a0.lt;have lb1:=b0.lt;obtain ⟨p0,p1,p2,p3,p4⟩:=a0.c5;simp at p0 p1 p2 p3 p4;obtain ⟨q0,q1,q2,q3,q4⟩:=b0.c5;simp at q0 q1 q2 q3 q4
       clear a0 b0 k1)
    | (go_at_call 30; (with_reducible refine (HI2.out _ HK2.out).mono ?_); rintro e9 w2 ⟨rfl,k1⟩
       have HK3:=Lh (HK2.out.trans (k1.mono HK2.out.size));have a0:=A0.out.call k1;have b0:=B0.out.call k1;have A1':=Lh a0;have B1':=Lh b0;have la2:=a0.lt;have lb2:=b0.lt;obtain ⟨r0,r1,r2,r3,r4⟩:=a0.c5;simp at r0 r1 r2 r3 r4;obtain ⟨u0,u1,u2,u3,u4⟩:=b0.c5;simp at u0 u1 u2 u3 u4
       clear a0 b0 k1)
    | (go_at_call 30; (with_reducible refine (HI3.out _ HK3.out).mono ?_); rintro e9 w3 ⟨rfl,k1⟩
       have HK4:=Lh (HK3.out.trans (k1.mono HK3.out.size));have a0:=A1'.out.call k1;have b0:=B1'.out.call k1;have la3:=a0.lt;have lb3:=b0.lt;obtain ⟨x0,x1,x2,x3,x4⟩:=a0.c5;simp at x0 x1 x2 x3 x4;obtain ⟨y0,y1,y2,y3,y4⟩:=b0.c5;simp at y0 y1 y2 y3 y4
       clear a0 b0 k1)
    | (go_at_call 30; (with_reducible refine (HI4.out _ HK4.out).mono ?_); rintro e9 w4 ⟨rfl,k1⟩
       have HK5:=Lh (HK4.out.trans (k1.mono HK4.out.size))
       clear k1))
   go_ret;exact ⟨rfl,HK5.out⟩
section
def ZdS (Af A1 A2 A3 A4:Option Addr) (cf c1 c2 c3 c4:Nat):SpL:=⟨Af,cf,Zdz.fr,A1,c1,Zdz.vat,A2,c2,Zdz.vin,A3,c3,Zdz.cat,A4,c4,Zdz.cin⟩
def someC (Af A1 A2 A3 A4:Option Addr) (cf c1 c2 c3 c4:Nat):Array Value:=#[.slice Af 3 cf,.slice A1 3 c1,.slice A2 3 c2,.slice A3 3 c3,.slice A4 3 c4]
theorem Zju {a1 a2 a3 a4 a5 a6 a7 a8 a9 av ac:Option Addr} {w:World} (hin:(ZbG a1 a2 a3 a4 a5 a6 a7 a8 a9 av ac).In w w.heap.size) (hqB:Zae < w.heap.size) (hq:ZP w) :
  Calls Tryz.prog 5 #[.agg (ZbG a1 a2 a3 a4 a5 a6 a7 a8 a9 av ac).flat,.int .i64 0] w (fun e w'=>∃ Af A1 A2 A3 A4 cf c1 c2 c3 c4,e = .returned (.tuple #[.agg #[.slice Af 3 cf,.slice A1 3 c1,.slice A2 3 c2,.slice A3 3 c3,.slice A4 3 c4],.int .i64 0])∧Hid ((ZdS Af A1 A2 A3 A4 cf c1 c2 c3 c4).In w' w'.heap.size)∧Hid (Below w.heap.size w w')) :=
 (Zpz _ 0 w.heap.size w hin (Nat.le_refl _) (by simp [ZbG]) i0 hqB hq).mono fun e w' hr=>by
  rw [ZjA] at hr;obtain ⟨⟨Af,cf,fr,A1,c1,vat,A2,c2,vin,A3,c3,cat,A4,c4,cin⟩,rfl,⟨h1,h2,h3,h4,h5⟩,hs,hb⟩:=hr
  simp only at h1 h2 h3 h4 h5
  subst h1 h2 h3 h4 h5;exact ⟨Af,A1,A2,A3,A4,cf,c1,c2,c3,c4,rfl,Lh hs,Lh hb⟩
section
variable {Af A1 A2 A3 A4:Option Addr} {cf c1 c2 c3 c4:Nat}
theorem Zd3 {f:FuncId} {a:Array Value} {w:World} {o o':Option Int} (h:Calls Tryz.prog f a w (Zu (Zh9 o) w)) (e:o=o'):Calls Tryz.prog f a w (Zu (Zh9 o') w):=e ▸ h
theorem Zd2 {w:World} {B:Nat} (h:(ZdS Af A1 A2 A3 A4 cf c1 c2 c3 c4).In w B) (hB:B≤w.heap.size) :
  Calls Tryz.prog 32 #[.agg #[.slice Af 3 cf,.slice A1 3 c1,.slice A2 3 c2,.slice A3 3 c3,.slice A4 3 c4],.int .i64 2,.int .i64 0] w (Zu (.tuple #[.int .i64 25,.bool true]) w) ∧
  Calls Tryz.prog 32 #[.agg #[.slice Af 3 cf,.slice A1 3 c1,.slice A2 3 c2,.slice A3 3 c3,.slice A4 3 c4],.int .i64 2,.int .i64 2] w (Zu (.tuple #[.int .i64 5,.bool true]) w) ∧
  Calls Tryz.prog 33 #[.agg #[.slice Af 3 cf,.slice A1 3 c1,.slice A2 3 c2,.slice A3 3 c3,.slice A4 3 c4],.int .i64 1,.int .i64 2] w (Zu (.tuple #[.int .i64 12,.bool true]) w) ∧
  Calls Tryz.prog 32 #[.agg #[.slice Af 3 cf,.slice A1 3 c1,.slice A2 3 c2,.slice A3 3 c3,.slice A4 3 c4],.int .i64 1,.int .i64 2] w (Zu (.tuple #[.int .i64 0,.bool false]) w) :=
 ⟨Zd3 (o':=some 25) (sVar (ZdS Af A1 A2 A3 A4 cf c1 c2 c3 c4) 2 0 B w h hB i2 i0) (by simp [Zph,Zbr,upF,ZdS,Zdz,wrap64]),Zd3 (o':=some 5) (sVar (ZdS Af A1 A2 A3 A4 cf c1 c2 c3 c4) 2 2 B w h hB i2 i2) (by simp [Zph,Zbr,upF,ZdS,Zdz,wrap64]),
  Zd3 (o':=some 12) (Zon (ZdS Af A1 A2 A3 A4 cf c1 c2 c3 c4) 1 2 B w h hB i1 i2) (by simp [ZnB,Zbr,upF,ZdS,Zdz,wrap64]),Zd3 (o':=none) (sVar (ZdS Af A1 A2 A3 A4 cf c1 c2 c3 c4) 1 2 B w h hB i1 i2) (by simp [Zph,Zbr,upF,ZdS,Zdz,wrap64])⟩
structure WkX (w:World) (g B:Nat) (Af A1 A2 A3 A4:Option Addr) (cf c1 c2 c3 c4:Nat) (W:World):Prop where
 bel:Below w.heap.size w W
 blk:Blk W g 38 #[.slice Af 3 cf,.slice A1 3 c1,.slice A2 3 c2,.slice A3 3 c3,.slice A4 3 c4]
 s:(ZdS Af A1 A2 A3 A4 cf c1 c2 c3 c4).In W B
 hB:B≤W.heap.size
theorem WkX.call {w W W':World} {g B:Nat} (h:WkX w g B Af A1 A2 A3 A4 cf c1 c2 c3 c4 W) (hb:Below W.heap.size W W'):WkX w g B Af A1 A2 A3 A4 cf c1 c2 c3 c4 W' :=
 ⟨h.bel.trans (hb.mono h.bel.size),h.blk.call hb,h.s.below (hb.mono h.hB),Nat.le_trans h.hB hb.size⟩
theorem WkX.start {w w1 W:World} (hb:Below w.heap.size w w1) (h:(ZdS Af A1 A2 A3 A4 cf c1 c2 c3 c4).In w1 w1.heap.size) (hW:w1.alloc (.cells #[.slice Af 3 cf,.slice A1 3 c1,.slice A2 3 c2,.slice A3 3 c3,.slice A4 3 c4] 38)=W) :
  WkX w w1.heap.size w1.heap.size Af A1 A2 A3 A4 cf c1 c2 c3 c4 W:=by
 have k:Below w1.heap.size w1 W:=by rw [← hW]; exact (Below.refl _ _).alloc (Nat.le_refl _) _
 exact ⟨hb.trans (k.mono hb.size),by rw [← hW]; exact Blk.new _ _ _,h.below k,k.size⟩
theorem WkX.cells {w W:World} {g B:Nat} (h:WkX w g B Af A1 A2 A3 A4 cf c1 c2 c3 c4 W):∃ b o,Af=some ⟨b,o,none⟩∧b < W.heap.size ∧
  W.cell? ⟨b,o,none⟩=some (.int .i64 (-1))∧W.cell? ⟨b,o+1,none⟩=some (.int .i64 0)∧W.cell? ⟨b,o+2,none⟩=some (.int .i64 5)∧W.cell? ⟨b,o+3,none⟩=some (.int .i64 28)∧W.cell? ⟨b,o+4,none⟩=some (.int .i64 4) ∧
  W.cell? ⟨b,o+5,none⟩=some (.int .i64 0)∧W.cell? ⟨b,o+6,none⟩=some (.int .i64 9)∧W.cell? ⟨b,o+7,none⟩=some (.int .i64 4)∧W.cell? ⟨b,o+8,none⟩=some (.int .i64 5)∧W.cell? ⟨b,o+9,none⟩=some (.int .i64 2) ∧
  W.cell? ⟨b,o+10,none⟩=some (.int .i64 0)∧W.cell? ⟨b,o+11,none⟩=some (.int .i64 23)∧W.cell? ⟨b,o+12,none⟩=some (.int .i64 9)∧W.cell? ⟨b,o+13,none⟩=some (.int .i64 5)∧W.cell? ⟨b,o+14,none⟩=some (.int .i64 6):=by
 obtain ⟨b,o,x,hx,hb,hv,-,x0,x1,x2,x3,x4⟩:=Zj6 h.s (k:=0) (by simp [ZdS,Zdz]);obtain ⟨b',o',y,hy,-,hv',-,y0,y1,y2,y3,y4⟩:=Zj6 h.s (k:=1) (by simp [ZdS,Zdz]);obtain ⟨b2,o2,z,hz,-,hv2,-,z0,z1,z2,z3,z4⟩:=Zj6 h.s (k:=2) (by simp [ZdS,Zdz]);rw [hx] at hy hz
 injection hy with hy
 injection hy with hy1 hy2
 injection hz with hz
 injection hz with hz1 hz2
 subst hy1 hy2 hz1 hz2
 injection hv with hv
 injection hv' with hv'
 injection hv2 with hv2
 subst hv hv' hv2;exact ⟨b,o,hx,Nat.lt_of_lt_of_le hb h.hB,x0,x1,x2,x3,x4,y0,y1,y2,y3,y4,z0,z1,z2,z3,z4⟩
end
@[go_sem ↓] theorem Zp4 (w:World) (a b c d e:Int):(binOp .eql 74 (.agg #[.int .i64 a,.int .i64 b,.int .i64 c,.int .i64 d,.int .i64 e]) (.agg #[.int .i64 a,.int .i64 b,.int .i64 c,.int .i64 d,.int .i64 e])).run Tryz.prog w = .ok (.bool true) w:=by
 simp only [binOp]
 simp [Op.equal,Op.maxDepth,ZgJ w 9997]
theorem Zna (w:World) (hqB:Zae < w.heap.size) (hq:ZP w):Calls Tryz.prog 8 #[] w (Zu (.bool true) w):=by
 have HQ:Hid (∀ W,Below w.heap.size w W→Zae < W.heap.size∧ZP W):=Lh fun W h=>⟨Nat.lt_of_lt_of_le hqB h.size,hq.below h hqB⟩
 clear hq;go_enter Tryz.func8,Tryz.ntmps8
 go_upto_region 1 with fail
 go_upto_region 2 with (first
  | (go_at_call 31; (refine (ZoD _).mono ?_); rintro e1 w1 ⟨a1,a2,a3,a4,a5,a6,a7,a8,a9,av,ac,rfl,HK,K1⟩)
  | (go_at_call 5; (with_reducible refine (Zju HK.out (HQ.out _ K1.out).1 (HQ.out _ K1.out).2).mono ?_); rintro e2 w2 ⟨Af,A1,A2,A3,A4,cf,c1,c2,c3,c4,rfl,HS,K2⟩))
 obtain ⟨W2,hW2⟩:∃ X,w2.alloc (.cells #[.slice Af 3 cf,.slice A1 3 c1,.slice A2 3 c2,.slice A3 3 c3,.slice A4 3 c4] 38)=X:=⟨_,rfl⟩
 have S:=Lh (WkX.start (K1.out.trans (K2.out.mono K1.out.size)) HS.out hW2);rw [hW2]
 obtain ⟨z,hz⟩:∃ z,w2.heap.size=z:=⟨_,rfl⟩
 rw [hz] at S ⊢;clear hW2 hz HS K1 K2 HK HQ;have b:=S.out.blk;have hlz:=b.lt;obtain ⟨k0,k1,k2,k3,k4⟩:=b.c5;simp at k0 k1 k2 k3 k4;clear b
 go_upto_region 4 with fail
 have hx:=S.out.cells;obtain ⟨xb,xo,rfl,hxl,x0,x1,x2,x3,x4,y0,y1,y2,y3,y4,u0,u1,u2,u3,u4⟩:=hx
 go_upto_region 5 with fail
 clear x0 x1 x2 x3 x4 y0 y1 y2 y3 y4 u0 u1 u2 u3 u4
 go_upto_region 9 with (first
  | (go_at_call 32; (with_reducible refine (Zd2 S.out.s S.out.hB).1.mono ?_); rintro e3 w3 ⟨rfl,k3⟩
     have S3:=Lh (S.out.call k3);have b3:=S3.out.blk;have hlz3:=b3.lt;obtain ⟨m0,m1,m2,m3,m4⟩:=b3.c5;simp at m0 m1 m2 m3 m4
     clear b3 k3)
  | (go_at_call 32; (with_reducible refine (Zd2 S3.out.s S3.out.hB).2.1.mono ?_); rintro e4 w4 ⟨rfl,k4⟩
     have S4:=Lh (S3.out.call k4);have b4:=S4.out.blk;have hlz4:=b4.lt;obtain ⟨n0,n1,n2,n3,n4⟩:=b4.c5;simp at n0 n1 n2 n3 n4
     clear b4 k4)
  | (go_at_call 33; (with_reducible refine (Zd2 S4.out.s S4.out.hB).2.2.1.mono ?_); rintro e5 w5 ⟨rfl,k5⟩
     have S5:=Lh (S4.out.call k5);have b5:=S5.out.blk;have hlz5:=b5.lt;obtain ⟨p0,p1,p2,p3,p4⟩:=b5.c5;simp at p0 p1 p2 p3 p4
     clear b5 k5)
  | (go_at_call 32; (with_reducible refine (Zd2 S5.out.s S5.out.hB).2.2.2.mono ?_); rintro e6 w6 ⟨rfl,k6⟩
     have S6:=Lh (S5.out.call k6);have b6:=S6.out.blk;have hlz6:=b6.lt;obtain ⟨q0,q1,q2,q3,q4⟩:=b6.c5;simp at q0 q1 q2 q3 q4
     clear b6 k6))
 have HF:=Lh S6.out.bel
 go_wp2_with fail
 go_ret;exact ⟨rfl,HF.out⟩
end
structure MkV (w:World) (kc:Array Value) (g B:Nat) (s:SpL) (W:World):Prop where
 bel:Below w.heap.size w W
 kb:Blk W w.heap.size 34 kc
 sb:Blk W g 38 #[.slice s.Af s.fr.length s.cf,.slice s.A1 s.vat.length s.c1,.slice s.A2 s.vin.length s.c2,.slice s.A3 s.cat.length s.c3,.slice s.A4 s.cin.length s.c4]
 si:s.In W B
 hB:B≤W.heap.size
theorem MkV.call {w W W':World} {kc:Array Value} {g B:Nat} {s:SpL} (h:MkV w kc g B s W) (hb:Below W.heap.size W W'):MkV w kc g B s W' :=
 ⟨h.bel.trans (hb.mono h.bel.size),h.kb.call hb,h.sb.call hb,h.si.below (hb.mono h.hB),Nat.le_trans h.hB hb.size⟩
theorem MkV.start {w w1 W:World} {kc:Array Value} {s:SpL} (hb:Below w.heap.size w w1) (hk:Blk w1 w.heap.size 34 kc) (hs:s.In w1 w1.heap.size)
  (hW:w1.alloc (.cells #[.slice s.Af s.fr.length s.cf,.slice s.A1 s.vat.length s.c1,.slice s.A2 s.vin.length s.c2,.slice s.A3 s.cat.length s.c3,.slice s.A4 s.cin.length s.c4] 38)=W):MkV w kc w1.heap.size w1.heap.size s W:=by
 have k:Below w1.heap.size w1 W:=by rw [← hW]; exact (Below.refl _ _).alloc (Nat.le_refl _) _
 exact ⟨hb.trans (k.mono hb.size),hk.call k,by rw [← hW]; exact Blk.new _ _ _,hs.below k,k.size⟩
def RetM (q:ZdL) (e':Int) (w:World) (e:Ending) (w':World):Prop:=∃ s:SpL,e = .returned (.tuple #[.agg #[.slice s.Af s.fr.length s.cf,.slice s.A1 s.vat.length s.c1,.slice s.A2 s.vin.length s.c2,.slice s.A3 s.cat.length s.c3,.slice s.A4 s.cin.length s.c4],.int .i64 e']) ∧
 Hid ((s.fr=q.fr∧s.vat=q.vat∧s.vin=q.vin∧s.cat=q.cat∧s.cin=q.cin)∧s.In w' w'.heap.size)∧Hid (Below w.heap.size w w')
theorem retM {q:ZdL×Int} {w:World} {e:Ending} {w':World} (h:ZeQ q w e w'):RetM q.1 q.2 w e w':=by
 obtain ⟨s,rfl,h1,h2,h3⟩:=h;exact ⟨s,rfl,Lh ⟨h1,h2⟩,Lh h3⟩
theorem ZkF {q:ZdL} {s t:SpL} (hs:s.fr=q.fr∧s.vat=q.vat∧s.vin=q.vin∧s.cat=q.cat∧s.cin=q.cin) (ht:t.fr=q.fr∧t.vat=q.vat∧t.vin=q.vin∧t.cat=q.cat∧t.cin=q.cin) {B:Nat} {w:World} (h1:s.In w B) (h2:t.In w B) (hB:B≤w.heap.size) :
  Calls Tryz.prog 7 #[.agg #[.slice s.Af s.fr.length s.cf,.slice s.A1 s.vat.length s.c1,.slice s.A2 s.vin.length s.c2,.slice s.A3 s.cat.length s.c3,.slice s.A4 s.cin.length s.c4],.agg #[.slice t.Af t.fr.length t.cf,.slice t.A1 t.vat.length t.c1,.slice t.A2 t.vin.length t.c2,.slice t.A3 t.cat.length t.c3,.slice t.A4 t.cin.length t.c4]] w (Zu (.bool true) w) :=
 ZoE s t (ht.1.trans hs.1.symm) (ht.2.1.trans hs.2.1.symm) (ht.2.2.1.trans hs.2.2.1.symm) (ht.2.2.2.1.trans hs.2.2.2.1.symm) (ht.2.2.2.2.trans hs.2.2.2.2.symm) B w h1 h2 hB
theorem SpL.In.more {s:SpL} {w:World} {B B':Nat} (h:s.In w B) (hB:B≤B'):s.In w B' :=
 ⟨⟨h.1.1,h.1.2.1.more hB,h.1.2.2⟩,⟨h.2.1.1,h.2.1.2.1.more hB,h.2.1.2.2⟩,⟨h.2.2.1.1,h.2.2.1.2.1.more hB,h.2.2.1.2.2⟩,⟨h.2.2.2.1.1,h.2.2.2.1.2.1.more hB,h.2.2.2.1.2.2⟩,⟨h.2.2.2.2.1,h.2.2.2.2.2.1.more hB,h.2.2.2.2.2.2⟩⟩
theorem Zgm {w w2 W:World} {kc:Array Value} {g B:Nat} {s t:SpL} (h:MkV w kc g B s w2) (ht:t.In w2 w2.heap.size) (hW:w2.alloc (.cells #[.slice t.Af t.fr.length t.cf,.slice t.A1 t.vat.length t.c1,.slice t.A2 t.vin.length t.c2,.slice t.A3 t.cat.length t.c3,.slice t.A4 t.cin.length t.c4] 38)=W) :
  MkV w kc g w2.heap.size s W∧Blk W w2.heap.size 38 #[.slice t.Af t.fr.length t.cf,.slice t.A1 t.vat.length t.c1,.slice t.A2 t.vin.length t.c2,.slice t.A3 t.cat.length t.c3,.slice t.A4 t.cin.length t.c4]∧t.In W w2.heap.size∧w2.heap.size≤W.heap.size:=by
 have k:Below w2.heap.size w2 W:=by rw [← hW]; exact (Below.refl _ _).alloc (Nat.le_refl _) _
 have h2:=h.call k;exact ⟨⟨h2.bel,h2.kb,h2.sb,(h.si.more h.hB).below k,k.size⟩,by rw [← hW]; exact Blk.new _ _ _,ht.below k,k.size⟩
theorem Zl2 (a b:Int):Zy (bits .and .i64 a b):=by
 unfold bits
 dsimp only
 rw [IntKind.wrap_i64];unfold Zy; omega
theorem Zin (k:KK) (branch:Int) (B:Nat) (w:World) (hin:k.In w B) (hB:B≤w.heap.size) (hcap:k.procs.length≤k.cp) (hb64:Zy branch) (hqB:Zae < B) (hq:ZP w) :
  Calls Tryz.prog 3 #[.agg k.flat,.int .i64 branch] w (Zu (.bool true) w):=by
 obtain ⟨W0,hW0⟩:∃ W,w.alloc (.cells k.flat 34)=W:=⟨_,rfl⟩
 have S0:Hid (Below w.heap.size w W0∧Blk W0 w.heap.size 34 k.flat):=Lh (by rw [← hW0]; exact ⟨(Below.refl _ _).alloc (Nat.le_refl _) _,Blk.new _ _ _⟩)
 have H1:Hid (∀ n,Zy n→∀ W,Below w.heap.size w W→Calls Tryz.prog 5 #[.agg k.flat,.int .i64 n] W (RetM (Zcs k n).1 (Zcs k n).2 W)):=Lh fun n hn W h =>
  (Zpz k n B W (hin.below (h.mono hB)) (Nat.le_trans hB h.size) hcap hn hqB (hq.below (h.mono hB) hqB)).mono fun _ _=>retM
 have H2:Hid (∀ n,Zy n→∀ W,Below w.heap.size w W→Calls Tryz.prog 6 #[.agg k.flat,.int .i64 n] W (RetM (Zcs k n).1 (Zcs k n).2 W)):=Lh fun n hn W h =>
  (Zot k n B W (hin.below (h.mono hB)) (Nat.le_trans hB h.size) hn).mono fun _ _=>retM
 have H4:Hid (∀ W,Below w.heap.size w W→Calls Tryz.prog 8 #[] W (Zu (.bool true) W)):=Lh fun W h =>
  Zna W (Nat.lt_of_lt_of_le hqB (Nat.le_trans hB h.size)) (hq.below (h.mono hB) hqB)
 obtain ⟨nv,hnv⟩:∃ m,k.vars.length=m:=⟨_,rfl⟩
 obtain ⟨nc,hnc⟩:∃ m,k.chans.length=m:=⟨_,rfl⟩
 obtain ⟨np,hnp⟩:∃ m,k.procs.length=m:=⟨_,rfl⟩
 simp only [KK.flat,hnv,hnc,hnp] at hW0 S0 H1 H2 ⊢;clear hin hcap hnv hnc hnp hq;have b0:=S0.out.2;have hlt0:=b0.lt;obtain ⟨e0,e1,e2,e3,e4,e5,e6,e7,e8,e9,e10⟩:=b0.c11;simp at e0 e1 e2 e3 e4 e5 e6 e7 e8 e9 e10;clear b0;go_enter Tryz.func3,Tryz.ntmps3
 go_upto_region 1 with fail
 clear hW0
 go_upto_region 2 with fail
 have hm64:=Zl2 branch 7;generalize bits BinOp.and .i64 branch 7=m at *;have HB:=Lh hb64;have HM:=Lh hm64;clear hb64 hm64;have S1:Hid (Below w.heap.size w W0∧Blk W0 w.heap.size 34 #[.slice k.Av nv k.cv,.slice k.Ac nc k.cc,.int .u8 k.root.kind,.int .i64 k.root.c,.int .i64 k.root.v,.int .u8 k.root.item,.slice k.root.At k.root.tos.length k.root.ct,.slice k.root.Ae k.root.e.length k.root.ce,.slice k.root.Ag k.root.g.length k.root.cg,.slice k.root.Al k.root.l.length k.root.cl,.slice k.Ap np k.cp]):=S0
 go_loopw [15] (fun i wr=>∃ j:Nat,j≤2∧i = .int .i64 j∧Hid (Below w.heap.size w wr∧Blk wr w.heap.size 34 #[.slice k.Av nv k.cv,.slice k.Ac nc k.cc,.int .u8 k.root.kind,.int .i64 k.root.c,.int .i64 k.root.v,.int .u8 k.root.item,.slice k.root.At k.root.tos.length k.root.ct,.slice k.root.Ae k.root.e.length k.root.ce,.slice k.root.Ag k.root.g.length k.root.cg,.slice k.root.Al k.root.l.length k.root.cl,.slice k.Ap np k.cp])) (fun i _=>2 - (intOf i).toNat)
 case atStart =>
  refine ⟨0,?_,?_,?_⟩
  ·omega
  ·rfl
  ·exact S1
 case round =>
  clear S0 S1 e0 e1 e2 e3 e4 e5 e6 e7 e8 e9 e10 hlt0;obtain ⟨j,hj,rfl,S⟩:=hrel;have b0:=S.out.2;have hlt0:=b0.lt;obtain ⟨e0,e1,e2,e3,e4,e5,e6,e7,e8,e9,e10⟩:=b0.c11;simp at e0 e1 e2 e3 e4 e5 e6 e7 e8 e9 e10;clear b0
  by_cases hlt:j < 2
  ·have ix0:∀ w,(Instr.index 35 (.agg #[.int .i64 branch,.int .i64 m]) (.int .i64 0)).run Tryz.prog w = .ok (.int .i64 branch) w:=fun _=>by kernel_rfl
   have ix1:∀ w,(Instr.index 35 (.agg #[.int .i64 branch,.int .i64 m]) (.int .i64 1)).run Tryz.prog w = .ok (.int .i64 m) w:=fun _=>by kernel_rfl
   have hltI:(j:Int) < 2:=by omega
   go_upto_region 3 with fail
   go_cut [6] (fun s6 wx=>∃ n,s6 = .int .i64 n∧Hid (Zy n)∧wx=wr)
   case first =>
    rcases (by omega:j=0∨j=1) with rfl | rfl
    ·go_wp2_with fail
     go_meet;exact ⟨branch,rfl,HB,rfl⟩
    ·go_wp2_with fail
     go_meet;exact ⟨m,rfl,HM,rfl⟩
   case rest =>
    obtain ⟨n,rfl,hn,hw⟩:=hcut;subst hw;clear e0 e1 e2 e3 e4 e5 e6 e7 e8 e9 e10 hlt0;have b0:=S.out.2;have hlt0:=b0.lt;obtain ⟨e0,e1,e2,e3,e4,e5,e6,e7,e8,e9,e10⟩:=b0.c11;simp at e0 e1 e2 e3 e4 e5 e6 e7 e8 e9 e10;clear b0
    go_upto_region 5 with (go_at_call 5; (with_reducible refine (H1.out _ hn.out _ S.out.1).mono ?_); rintro e1 w1 ⟨s,rfl,HS,K1⟩)
    obtain ⟨W1,hW1⟩:∃ X,w1.alloc (.cells #[.slice s.Af s.fr.length s.cf,.slice s.A1 s.vat.length s.c1,.slice s.A2 s.vin.length s.c2,.slice s.A3 s.cat.length s.c3,.slice s.A4 s.cin.length s.c4] 38)=X:=⟨_,rfl⟩
    have V:=Lh (MkV.start (S.out.1.trans (K1.out.mono S.out.1.size)) (S.out.2.call K1.out) HS.out.2 hW1);have HSQ:=Lh HS.out.1;rw [hW1]
    obtain ⟨z,hz⟩:∃ z,w1.heap.size=z:=⟨_,rfl⟩
    rw [hz] at V ⊢;clear hW1 hz HS K1 S e0 e1 e2 e3 e4 e5 e6 e7 e8 e9 e10 hlt0;have b0:=V.out.kb;have hlt0:=b0.lt;obtain ⟨e0,e1,e2,e3,e4,e5,e6,e7,e8,e9,e10⟩:=b0.c11;simp at e0 e1 e2 e3 e4 e5 e6 e7 e8 e9 e10;clear b0
    go_upto_region 6 with (go_at_call 6; (with_reducible refine (H2.out _ hn.out _ V.out.bel).mono ?_); rintro e2 w2 ⟨t,rfl,HT,K2⟩)
    obtain ⟨W2,hW2⟩:∃ X,w2.alloc (.cells #[.slice t.Af t.fr.length t.cf,.slice t.A1 t.vat.length t.c1,.slice t.A2 t.vin.length t.c2,.slice t.A3 t.cat.length t.c3,.slice t.A4 t.cin.length t.c4] 38)=X:=⟨_,rfl⟩
    have V1:=Lh (V.out.call K2.out);have V2:=Lh (Zgm V1.out HT.out.2 hW2);have HTQ:=Lh HT.out.1;rw [hW2]
    obtain ⟨y,hy⟩:∃ y,w2.heap.size=y:=⟨_,rfl⟩
    rw [hy] at V2 ⊢;clear hW2 hy HT K2 V V1 e0 e1 e2 e3 e4 e5 e6 e7 e8 e9 e10 hlt0;have b1:=V2.out.1.sb;have hlt1:=b1.lt;obtain ⟨f0,f1,f2,f3,f4⟩:=b1.c5;simp at f0 f1 f2 f3 f4;have b2:=V2.out.2.1;have hlt2:=b2.lt;obtain ⟨d0,d1,d2,d3,d4⟩:=b2.c5;simp at d0 d1 d2 d3 d4;clear b1 b2;generalize (Zcs k n).2=r at *
    have hrr:(r != r)=false:=by simp
    have HSame:=Lh (ZkF HSQ.out HTQ.out V2.out.1.si V2.out.2.2.1 V2.out.2.2.2)
    go_wp2_with (go_at_call 7; (with_reducible refine HSame.out.mono ?_); rintro e3 w3 ⟨rfl,k3⟩; have V3:=Lh (V2.out.1.call k3); clear k3)
    go_roundw
    case rel =>
     refine ⟨j+1,?_,?_,?_⟩
     ·omega
     ·rfl
     ·exact Lh ⟨V3.out.bel,V3.out.kb⟩
    case measure=>simp [intOf]; omega
  ·have hltI:¬ (j:Int) < 2:=by omega
   have HK:=Lh S.out.1
   go_wp2_with (go_at_call 8; (with_reducible refine (H4.out _ HK.out).mono ?_); rintro e9 w9 ⟨rfl,k9⟩; have HK9:=Lh (HK.out.trans (k9.mono HK.out.size)); clear k9)
   go_ret;exact ⟨rfl,HK9.out⟩
def spC (s:SpL):Array Value:=#[.slice s.Af s.fr.length s.cf,.slice s.A1 s.vat.length s.c1,.slice s.A2 s.vin.length s.c2,.slice s.A3 s.cat.length s.c3,.slice s.A4 s.cin.length s.c4]
structure FnV (w:World) (g B2:Nat) (s t:SpL) (W:World):Prop where
 bel:Below w.heap.size w W
 sb:Blk W w.heap.size 38 (spC s)
 tb:Blk W g 38 (spC t)
 ti:t.In W B2
 hB:B2≤W.heap.size
theorem FnV.call {w W W':World} {g B2:Nat} {s t:SpL} (h:FnV w g B2 s t W) (hb:Below W.heap.size W W'):FnV w g B2 s t W' :=
 ⟨h.bel.trans (hb.mono h.bel.size),h.sb.call hb,h.tb.call hb,h.ti.below (hb.mono h.hB),Nat.le_trans h.hB hb.size⟩
theorem FnV.start {w w1 W:World} {s t:SpL} (hb:Below w.heap.size w w1) (hk:Blk w1 w.heap.size 38 (spC s)) (ht:t.In w1 w1.heap.size) (hW:w1.alloc (.cells (spC t) 38)=W):FnV w w1.heap.size w1.heap.size s t W:=by
 have k:Below w1.heap.size w1 W:=by rw [← hW]; exact (Below.refl _ _).alloc (Nat.le_refl _) _
 exact ⟨hb.trans (k.mono hb.size),hk.call k,by rw [← hW]; exact Blk.new _ _ _,ht.below k,k.size⟩
theorem Ziv (k:KK) (branch:Int) (B:Nat) (w:World) (hin:k.In w B) (hcap:k.procs.length≤k.cp) (hb:-9223372036854775808≤branch∧branch≤9223372036854775807) (hq:Zae < w.heap.size∧ZP w) (hB:B≤w.heap.size) :
  Calls Tryz.prog 3 #[.agg k.flat,.int .i64 branch] w (Zu (.bool true) w) :=
 Zin k branch w.heap.size w (hin.more hB) (Nat.le_refl _) hcap hb hq.1 hq.2
section
open Go.ChangeShapes Go.WideShapes Go.ChangeAt Go.RowKit
theorem Tryz.own:ownKnob Tryz.prog.godebug=none:=by kernel_rfl
theorem Tryz.laidOut:laidOutB Tryz.prog=true:=by kernel_rfl
abbrev Zim:List (String×DataW Unit):=Rows.spaceMakesRow.laid
theorem Zm8 (os:Os) (args:Array Value):laidMetH Tryz.prog Zim ((World.laidAll Tryz.prog os Zim).forCall (fun _ _=>0) ⟨#[],args,[]⟩).memory:=by
 rw [MakeChecks.laidMetH_plain _ _ _ (by kernel_rfl)];exact laidMet_laidAll _ (by kernel_rfl) (by kernel_rfl)
theorem Zpn {w:World} {n:String} {cs:Array Value} {g:Nat} (hg:Tryz.prog.globalNamed n=some g) (h:w.var? Tryz.prog n=some cs):g < w.heap.size:=by
 unfold World.var? at h;simp only [hg,Option.bind_some] at h
 rcases Nat.lt_or_ge g w.heap.size with h' | h'
 ·exact h'
 ·simp [Array.getElem?_eq_none h'] at h
theorem Zj4 {a:Int} (h:(Lit.int .i64 a).wf=true):-9223372036854775808≤a∧a≤9223372036854775807:=ZeZ h
theorem gQ:Tryz.prog.globalNamed "transputer/depth.quiet" = some 0:=by kernel_rfl
theorem Zgl {H:Type} {enc:TypeId×Value→H} {P:Program} {w:World} {base:Nat} {sp:Nat→Bool} {held:Bool} {fuel:Nat} {t e:TypeId} {n:Nat} {cs:List Value} {zs:List Bool} {p:List MemPlace}
  (ht:P.underlying t=some (.array n e)) (he:P.underlying e=some .bool) (hce:P.cellsOf e=1) (hct:P.cellsOf t=n)
  (h:DataW.trod enc P w base sp held fuel t cs=some (.agg (zs.map fun z=>.lit (.bool z)),p)):cs=zs.map fun z=>Value.bool z:=by
 cases fuel with
 | zero=>simp [DataW.trod] at h
 | succ fuel =>
   simp only [DataW.trod,ht,hce,hct,Nat.mul_one] at h
   split at h
   ·rename_i hl;obtain ⟨xs,hm,hx⟩:=Option.map_eq_some_iff.1 h
    have hxs:xs.map (·.1)=zs.map fun z=>(DataW.lit (.bool z):DataW H):=by
     have:=congrArg Prod.fst hx
     simpa using this
    have hxl:xs.length=n:=by simpa using Lib.mapM_length hm
    have hzl:zs.length=n:=by
     have:=congrArg List.length hxs;simp at this
     omega
    apply List.ext_getElem?
    intro i
    by_cases hi:i < n
    ·obtain ⟨b,hb,hf⟩:=Lib.mapM_at hm i i (by simp [hi]);obtain ⟨z,hc,rfl⟩:=DataW.trod_bool he hf
     have h1:cs[i]? = some (.bool z):=by
      have:=congrArg (·[0]?) hc
      simpa [List.getElem?_take,List.getElem?_drop] using this
     have h2:(xs.map (·.1))[i]? = some (DataW.lit (.bool z):DataW H):=by simp [hb]
     rw [hxs] at h2;simp only [List.getElem?_map,Option.map_eq_some_iff,DataW.lit.injEq,Lit.bool.injEq] at h2;obtain ⟨z',hz',rfl⟩:=h2
     simp [h1,hz']
    ·rw [List.getElem?_eq_none (by omega),List.getElem?_eq_none (by simp; omega)]
   ·cases h
def ZnQ:List Bool:=(List.range 27).map Zbp
theorem ZjH:(Rows.laid_transputer_depth_quiet:DataW Unit) = .agg (ZnQ.map fun z=>.lit (.bool z)):=by kernel_rfl
theorem ZgW {W:World} {rest:List (String×DataW Unit)} (h:laidMet Tryz.prog (("transputer/depth.quiet",Rows.laid_transputer_depth_quiet) :: rest) W):W.var? Tryz.prog "transputer/depth.quiet" = some Zgv:=by
 rw [ZjH] at h;obtain ⟨ps,⟨g',t',cs,fuel,p,q,hg',ht',hvar,hd,_,_⟩,_⟩:=h;obtain rfl:=Option.some.inj (gQ.symm.trans hg')
 have hty:(Tryz.prog.globals[0]?).map (·.type)=some 130:=by kernel_rfl
 obtain rfl:=Option.some.inj (hty.symm.trans ht');have hc:=Zgl Tryz.underlying130 Tryz.underlying4 (by kernel_rfl) (by kernel_rfl) hd;rw [hvar]
 congr 1
 apply Array.toList_inj.1
 rw [hc]
 simp [Zgv,ZnQ]
theorem ZjI {w:World} (h:w.var? Tryz.prog "transputer/depth.quiet" = some Zgv):ZP w:=by
 unfold World.var? at h;simp only [gQ,Option.bind_some] at h
 split at h
 ·rename_i o cs t f heq;refine ⟨t,f,?_⟩;obtain rfl:=Option.some.inj h;exact heq
 ·cases h
theorem Zm9 {W:World} (h:laidMetH Tryz.prog Zim W):Zae < W.heap.size∧ZP W:=by
 rw [MakeChecks.laidMetH_plain _ _ _ (by kernel_rfl)] at h;have hq:=ZgW h;exact ⟨Zpn gQ hq,ZjI hq⟩
section
variable {H:Type} {enc:TypeId×Value→H} {w:World} {base:Nat} {sp:Nat→Bool} {held:Bool} {fuel:Nat} {cs:List Value} {y:DataW H×List MemPlace}
theorem Zij (h:DataW.trod enc Tryz.prog w base sp held fuel 34 cs=some y) (hw:ZbU Tryz.prog 34 y.1):∃ k:KK,cs=k.row∧k.In w w.heap.size∧k.procs.length≤k.cp:=by
 obtain ⟨k,hk,hin⟩:=ZoA h hw;refine ⟨k,hk,hin,?_⟩;obtain ⟨f,parts,hf,hl,hy,hx⟩:=Zav ZoT h;obtain ⟨z3,h3,-⟩:=hx 3 _ rfl;rw [hk] at h3;simp only [cK19] at h3;have h4:=Zge Tryz.underlying32 h3;have e:((k.row.drop 10).take 1)=[.slice k.Ap k.procs.length k.cp]:=rfl
 rcases h4 with h4 | ⟨a,len,cap,f',h4,h5,-⟩
 ·rw [e] at h4
  injection h4 with h4
  injection h4 with _ h6 h7
  omega
 ·rw [e] at h4
  injection h4 with h4
  injection h4 with _ h6 h7
  omega
end
end
end Go.Proofs.YtjndhfcfcedheaaGreatDoor
