/- Texts that belong together: WN WP. -/
import Derived.Test.YtjndhfcfcedheaaGreatDoorHK20
import Derived.Test.YtjndhfcfcedheaaGreatDoorHK29
set_option linter.unusedVariables false
set_option linter.unusedSimpArgs false
set_option maxRecDepth 100000
set_option maxHeartbeats 16000000
namespace Go.Proofs.YtjndhfcfcedheaaGreatDoor
open Go.RowKit
def vE (v:Int):KE:=⟨2,0,0,0,v,none,0,[]⟩
def Zmb (a:Option Addr):KP:=⟨6,2,0,1,none,0,[],a,1,[vE 0],none,0,[],none,0,[]⟩
def inK (a:Option Addr):KP:=⟨5,2,0,1,a,1,[⟨2,none,0,[]⟩],none,0,[],none,0,[],none,0,[]⟩
def ZiN (a:Option Addr):KE:=⟨5,1,0,0,0,a,2,[vE 2,vE 0]⟩
def Zma (a3 a4 a5 a6:Option Addr):KP:=⟨4,0,0,0,a5,1,[⟨1,a4,1,[vE 2]⟩],a6,1,[ZiN a3],none,0,[],none,0,[]⟩
def ZcP (v:Int):KP:=⟨3,0,v,0,none,0,[],none,0,[],none,0,[],none,0,[]⟩
def Zmr (a2 a3 a4 a5 a6 a7:Option Addr):KP:=⟨9,0,0,0,none,0,[],none,0,[],none,0,[],a7,3,[ZcP 2,inK a2,Zma a3 a4 a5 a6]⟩
def ZmW (a1 a2 a3 a4 a5 a6 a7 a8:Option Addr):KP:=⟨10,0,0,0,none,0,[],none,0,[],none,0,[],a8,2,[Zmb a1,Zmr a2 a3 a4 a5 a6 a7]⟩
def ZdB (a1 a2 a3 a4 a5 a6 a7 a8 a9:Option Addr):KP:=⟨9,0,0,0,none,0,[],none,0,[],none,0,[],a9,2,[ZcP 0,ZmW a1 a2 a3 a4 a5 a6 a7 a8]⟩
def ZbG (a1 a2 a3 a4 a5 a6 a7 a8 a9 av ac:Option Addr):KK:=⟨av,3,[⟨1,0⟩,⟨1,3⟩,⟨1,0⟩],ac,3,[1,2,0],ZdB a1 a2 a3 a4 a5 a6 a7 a8 a9,none,0,[]⟩
def Zdz:ZdL:=⟨[⟨-1,0,5,28,4⟩,⟨0,9,4,5,2⟩,⟨0,23,9,5,6⟩],[2,2,5],[0,2,2],[-1,-1,3],[-1,-1,0]⟩
theorem ZkC (a1 a2 a3 a4 a5 a6 a7 a8 a9 av ac:Option Addr):Zfd (ZbG a1 a2 a3 a4 a5 a6 a7 a8 a9 av ac)=true:=by
 simp [Zfd,ZbG,Zaw,Zel,Zb9,ZaT,ZdB,ZmW,Zmr,Zmb,inK,Zma,ZcP,ZiN,vE,Zx,Zn,ZaF,ZW,Za3,Zab,Zai,Zef,ZdJ,Zbg,ZS,Z6,ZbJ,Zaa,ZU,Z8,Zq,Zt,ZaE]
theorem Zdr (a1 a2 a3 a4 a5 a6 a7 a8 a9:Option Addr):Zd (ZdB a1 a2 a3 a4 a5 a6 a7 a8 a9)=⟨[-1,0,0],[(ZdB a1 a2 a3 a4 a5 a6 a7 a8 a9,0),(ZcP 0,0),(ZmW a1 a2 a3 a4 a5 a6 a7 a8,0),(Zmb a1,1),(Zmr a2 a3 a4 a5 a6 a7,2),(ZcP 2,2),(inK a2,2),(Zma a3 a4 a5 a6,2)],[[1,2]],[0]⟩:=by
 simp [Zd,ZdB,ZmW,Zmr,Zmb,inK,Zma,ZcP,Z7,ZE,Zj,ZF]
theorem Zhn (a1 a2 a3 a4 a5 a6 a7 a8 a9 av ac:Option Addr):Zh (ZbG a1 a2 a3 a4 a5 a6 a7 a8 a9 av ac) 0=ZdB a1 a2 a3 a4 a5 a6 a7 a8 a9:=rfl
theorem ZkA (a1 a2 a3 a4 a5 a6 a7 a8 a9 av ac:Option Addr):ZbA (ZbG a1 a2 a3 a4 a5 a6 a7 a8 a9 av ac) (Zd (ZdB a1 a2 a3 a4 a5 a6 a7 a8 a9))=[0,2,2]:=by
 rw [Zdr]
 simp [ZbA,Zhh,ZcS,ZbP,ZbG,ZdB,ZmW,Zmr,Zmb,inK,Zma,ZcP,ZiN,vE,ZaQ,ZbK,ZcZ,Zay,ZbI,List.replicate]
theorem ZkD (a1 a2 a3 a4 a5 a6 a7 a8 a9 av ac:Option Addr):Zdh (ZbG a1 a2 a3 a4 a5 a6 a7 a8 a9 av ac) 0 (Zd (ZdB a1 a2 a3 a4 a5 a6 a7 a8 a9))=[-1,-1,0]:=by
 rw [Zdr]
 simp [Zdh,Zcv,Zcd,Zau,ZbB,ZhA,ZbG,ZdB,ZmW,Zmr,Zmb,inK,Zma,ZcP,List.replicate]
theorem ZkB (a1 a2 a3 a4 a5 a6 a7 a8 a9:Option Addr) (f:Nat):ZJ Zf (Zd (ZdB a1 a2 a3 a4 a5 a6 a7 a8 a9)).uses f=if f=0 then 1 else if f=1 then 2 else if f=2 then 3 else 0:=by
 rw [Zdr]
 match f with
 | 0=>simp [ZJ,Zal,ZbM,ZdB,ZmW,Zmr,Zmb,inK,Zma,ZcP,ZiN,vE,Zf,Zaa,ZU,Z8,Zq,ZT,ZQ]
 | 1=>simp [ZJ,Zal,ZbM,ZdB,ZmW,Zmr,Zmb,inK,Zma,ZcP,ZiN,vE,Zf,Zaa,ZU,Z8,Zq,ZT,ZQ]
 | 2=>simp [ZJ,Zal,ZbM,ZdB,ZmW,Zmr,Zmb,inK,Zma,ZcP,ZiN,vE,Zf,Zaa,ZU,Z8,Zq,ZT,ZQ]
 | f+3=>simp [ZJ]
theorem Zia (a1 a2 a3 a4 a5 a6 a7 a8 a9 av ac:Option Addr):Zs (ZbG a1 a2 a3 a4 a5 a6 a7 a8 a9 av ac) 0=Zdz:=by
 unfold Zs;rw [Zhn]
 have ht:(fun f=>ZJ Zf (Zd (ZdB a1 a2 a3 a4 a5 a6 a7 a8 a9)).uses f)=fun f=>if f=0 then 1 else if f=1 then 2 else if f=2 then 3 else 0:=funext fun f=>ZkB a1 a2 a3 a4 a5 a6 a7 a8 a9 f
 have ht2:ZJ Zf (Zd (ZdB a1 a2 a3 a4 a5 a6 a7 a8 a9)).uses=fun f=>if f=0 then 1 else if f=1 then 2 else if f=2 then 3 else 0:=ht
 simp only [ht2,ZkA,ZkD];rw [Zdr]
 simp [Zdf,frJ,tb,ZaA,Zbo,ZaN,Zz,ZbG,Za2,Zaq,Zbq,Zbc,Za6,wrap64,Zdz,List.range,List.range.loop]
 decide
theorem ZjA (a1 a2 a3 a4 a5 a6 a7 a8 a9 av ac:Option Addr):Zcs (ZbG a1 a2 a3 a4 a5 a6 a7 a8 a9 av ac) 0=(Zdz,0):=by
 unfold Zcs;rw [if_neg (by rw [ZkC]; simp),if_neg (by simp [ZbG])]
 show (if Zgf (Zs (ZbG a1 a2 a3 a4 a5 a6 a7 a8 a9 av ac) 0) then (ZaJ,240) else (Zs (ZbG a1 a2 a3 a4 a5 a6 a7 a8 a9 av ac) 0,0))=_
 rw [Zia]
 simp [Zgf,Zdz,wrap64]
theorem ZaZ {W:World} {g:Nat} {t:TypeId} {cs:Array Value} (h:Blk W g t cs) {size n:Nat} {xs:List Value} (hx:cs.toList=xs) (hn:xs.length=n * size):Zo W W.heap.size size (some ⟨g,0,none⟩) n xs:=by
 subst hx;refine ⟨hn,fun _=>⟨_,rfl,h.lt,fun j u hu=>?_⟩⟩;have:=h.cell j
 have hadd:(⟨g,0,none⟩:Addr).add j=⟨g,j,none⟩:=by unfold Addr.add; split <;> simp_all
 rw [hadd,this]
 simpa using hu
theorem Zmm (W:World) (B:Nat) (v:Int) (hv:Zy v):(vE v).In W B :=
 KE.all_iff.2 ⟨⟨⟨by simp [vE],by simp [vE],by simp [vE],by simp [ZfO,vE],hv,by simp [ZB,vE]⟩,Zo.none_⟩,fun x hx=>by cases hx⟩
def nilP:KP:=⟨0,0,0,0,none,0,[],none,0,[],none,0,[],none,0,[]⟩
structure SmA (W:World) (g1 g2 g3 g4 g5 g6:Nat):Prop where
 b1:Blk W g1 65 #[.int .u8 2,.int .u8 0,.int .u8 0,.int .i32 0,.int .i64 0,.slice none 0 0]
 b2:Blk W g2 105 #[.int .i64 2,.slice none 0 0]
 b3:Blk W g3 65 #[.int .u8 2,.int .u8 0,.int .u8 0,.int .i32 0,.int .i64 2,.slice none 0 0,.int .u8 2,.int .u8 0,.int .u8 0,.int .i32 0,.int .i64 0,.slice none 0 0]
 b4:Blk W g4 65 #[.int .u8 2,.int .u8 0,.int .u8 0,.int .i32 0,.int .i64 2,.slice none 0 0]
 b5:Blk W g5 105 #[.int .i64 1,.slice (some ⟨g4,0,none⟩) 1 1]
 b6:Blk W g6 65 #[.int .u8 5,.int .u8 1,.int .u8 0,.int .i32 0,.int .i64 0,.slice (some ⟨g3,0,none⟩) 2 2]
theorem SmA.call {W W':World} {g1 g2 g3 g4 g5 g6:Nat} (h:SmA W g1 g2 g3 g4 g5 g6) (hb:Below W.heap.size W W'):SmA W' g1 g2 g3 g4 g5 g6 :=
 ⟨h.b1.call hb,h.b2.call hb,h.b3.call hb,h.b4.call hb,h.b5.call hb,h.b6.call hb⟩
theorem nil_row (W:World) (B:Nat):Zbm W B none []∧ZcN W B none [] :=
 ⟨⟨by simp [ZB],Zo.none_,fun x hx=>by cases hx⟩,⟨by simp [ZB],Zo.none_,fun x hx=>by cases hx⟩⟩
theorem Zf3 {W:World} {B kind item n:Nat} {c v:Int} {At Ae Al:Option Addr} {nt ne:Nat} {tos:List KPl} {es:List KE} {l:List KP} (hk:kind≤255) (hc:Zy c) (hv:Zy v) (hi:item≤255)
  (ht:ZcN W B At tos) (he:Zbm W B Ae es) (hl:ZB l) (hr:Zo W B 8 Al l.length (Zpi l)) (hs:∀ x∈l,x.In W B):(⟨kind,c,v,item,At,nt,tos,Ae,ne,es,none,0,[],Al,n,l⟩:KP).In W B :=
 KP.all_iff.2 ⟨⟨⟨hk,hc,hv,hi,by simp [ZB],hl⟩,ht,he,⟨Zo.none_,fun x hx=>by cases hx⟩,hr⟩,(fun g hg=>by cases hg),hs⟩
theorem i64s (n:Int) (h:0≤n) (h2:n≤1000):Zy n:=by unfold Zy; omega
theorem i0:Zy 0:=⟨by decide,by decide⟩
theorem i1:Zy 1:=⟨by decide,by decide⟩
theorem i2:Zy 2:=⟨by decide,by decide⟩
theorem i3:Zy 3:=⟨by decide,by decide⟩
theorem SmA.out {W:World} {g1 g2 g3 g4 g5 g6:Nat} (h:SmA W g1 g2 g3 g4 g5 g6):(Zmb (some ⟨g1,0,none⟩)).In W W.heap.size :=
 Zf3 (by decide) i2 i0 (by decide) (nil_row _ _).2
  ⟨by simp [ZB],ZaZ h.b1 rfl rfl,fun x hx=>by
   obtain rfl:x=vE 0:=by simpa using hx
   exact Zmm _ _ _ i0⟩ (by simp [ZB]) Zo.none_ (fun x hx=>by cases hx)
theorem SmA.inp {W:World} {g1 g2 g3 g4 g5 g6:Nat} (h:SmA W g1 g2 g3 g4 g5 g6):(inK (some ⟨g2,0,none⟩)).In W W.heap.size :=
 Zf3 (by decide) i2 i0 (by decide)
  ⟨by simp [ZB],ZaZ h.b2 rfl rfl,fun x hx=>by
   obtain rfl:x=⟨2,none,0,[]⟩:=by simpa using hx
   exact ⟨i2,(nil_row _ _).1⟩⟩ (nil_row _ _).1 (by simp [ZB]) Zo.none_ (fun x hx=>by cases hx)
theorem SmA.sum {W:World} {g1 g2 g3 g4 g5 g6:Nat} (h:SmA W g1 g2 g3 g4 g5 g6):(ZiN (some ⟨g3,0,none⟩)).In W W.heap.size :=
 KE.all_iff.2 ⟨⟨⟨by simp [ZiN],by simp [ZiN],by simp [ZiN],by simp [ZfO,ZiN],i0,by simp [ZB,ZiN]⟩,ZaZ h.b3 rfl rfl⟩,fun x hx=>by
  have hx:x=vE 2∨x=vE 0:=by simpa [ZiN] using hx
  rcases hx with rfl | rfl
  ·exact Zmm _ _ _ i2
  ·exact Zmm _ _ _ i0⟩
theorem SmA.set {W:World} {g1 g2 g3 g4 g5 g6:Nat} (h:SmA W g1 g2 g3 g4 g5 g6):(Zma (some ⟨g3,0,none⟩) (some ⟨g4,0,none⟩) (some ⟨g5,0,none⟩) (some ⟨g6,0,none⟩)).In W W.heap.size :=
 Zf3 (by decide) i0 i0 (by decide)
  ⟨by simp [ZB],ZaZ h.b5 rfl rfl,fun x hx=>by
   obtain rfl:x=⟨1,some ⟨g4,0,none⟩,1,[vE 2]⟩:=by simpa using hx
   exact ⟨i1,by simp [ZB],ZaZ h.b4 rfl rfl,fun x hx=>by
    obtain rfl:x=vE 2:=by simpa using hx
    exact Zmm _ _ _ i2⟩⟩
  ⟨by simp [ZB],ZaZ h.b6 rfl rfl,fun x hx=>by
   obtain rfl:x=ZiN (some ⟨g3,0,none⟩):=by simpa using hx
   exact h.sum⟩ (by simp [ZB]) Zo.none_ (fun x hx=>by cases hx)
theorem Zji (W:World) (B:Nat) (v:Int) (h:0≤v) (h2:v≤1000):(ZcP v).In W B :=
 Zf3 (by decide) i0 (i64s _ h h2) (by decide) (nil_row _ _).2 (nil_row _ _).1 (by simp [ZB]) Zo.none_ (fun x hx=>by cases hx)
theorem Zil {W:World} {B kind n:Nat} {Al:Option Addr} {l:List KP} (hk:kind≤255) (hl:ZB l) (hr:Zo W B 8 Al l.length (Zpi l)) (hs:∀ x∈l,x.In W B):(⟨kind,0,0,0,none,0,[],none,0,[],none,0,[],Al,n,l⟩:KP).In W B :=
 Zf3 hk i0 i0 (by decide) (nil_row _ _).2 (nil_row _ _).1 hl hr hs
def ZqN (g2 g5 g6:Nat):Array Value:=#[.int .u8 3,.int .i64 0,.int .i64 2,.int .u8 0,.slice none 0 0,.slice none 0 0,.slice none 0 0,.slice none 0 0,
 .int .u8 5,.int .i64 2,.int .i64 0,.int .u8 1,.slice (some ⟨g2,0,none⟩) 1 1,.slice none 0 0,.slice none 0 0,.slice none 0 0,
 .int .u8 4,.int .i64 0,.int .i64 0,.int .u8 0,.slice (some ⟨g5,0,none⟩) 1 1,.slice (some ⟨g6,0,none⟩) 1 1,.slice none 0 0,.slice none 0 0]
def ZqO (g1 g7:Nat):Array Value:=#[.int .u8 6,.int .i64 2,.int .i64 0,.int .u8 1,.slice none 0 0,.slice (some ⟨g1,0,none⟩) 1 1,.slice none 0 0,.slice none 0 0,
 .int .u8 9,.int .i64 0,.int .i64 0,.int .u8 0,.slice none 0 0,.slice none 0 0,.slice none 0 0,.slice (some ⟨g7,0,none⟩) 3 3]
def Zoo (g8:Nat):Array Value:=#[.int .u8 3,.int .i64 0,.int .i64 0,.int .u8 0,.slice none 0 0,.slice none 0 0,.slice none 0 0,.slice none 0 0,
 .int .u8 10,.int .i64 0,.int .i64 0,.int .u8 0,.slice none 0 0,.slice none 0 0,.slice none 0 0,.slice (some ⟨g8,0,none⟩) 2 2]
theorem Zol {W:World} {g1 g2 g3 g4 g5 g6 g7 g8 g9 gv gc:Nat} (h:SmA W g1 g2 g3 g4 g5 g6) (h7:Blk W g7 31 (ZqN g2 g5 g6)) (h8:Blk W g8 31 (ZqO g1 g7)) (h9:Blk W g9 31 (Zoo g8))
  (hv:Blk W gv 92 #[.int .u8 1,.int .i64 0,.int .u8 1,.int .i64 3,.int .u8 1,.int .i64 0]) (hc:Blk W gc 94 #[.int .u8 1,.int .u8 2,.int .u8 0]) :
  (ZbG (some ⟨g1,0,none⟩) (some ⟨g2,0,none⟩) (some ⟨g3,0,none⟩) (some ⟨g4,0,none⟩) (some ⟨g5,0,none⟩) (some ⟨g6,0,none⟩) (some ⟨g7,0,none⟩) (some ⟨g8,0,none⟩) (some ⟨g9,0,none⟩) (some ⟨gv,0,none⟩) (some ⟨gc,0,none⟩)).In W W.heap.size:=by
 refine ⟨⟨by simp [ZB,ZbG],ZaZ hv rfl rfl,fun x hx=>?_⟩,⟨by simp [ZB,ZbG],ZaZ hc rfl rfl,fun x hx=>?_⟩,?_,by simp [ZB,ZbG],Zo.none_,fun x hx=>by cases hx⟩
 ·have hx:x=⟨1,0⟩∨x=⟨1,3⟩∨x=⟨1,0⟩:=by simpa [ZbG] using hx
  rcases hx with rfl | rfl | rfl
  ·exact ⟨by decide,i0⟩
  ·exact ⟨by decide,i3⟩
  ·exact ⟨by decide,i0⟩
 ·have hx:x=1∨x=2∨x=0:=by simpa [ZbG] using hx
  omega
 ·refine Zil (by decide) (by simp [ZB]) (ZaZ h9 rfl rfl) fun x hx=>?_
  rcases List.mem_cons.1 hx with rfl | hx
  ·exact Zji _ _ _ (by decide) (by decide)
  obtain rfl:=List.mem_singleton.1 hx;refine Zil (by decide) (by simp [ZB]) (ZaZ h8 rfl rfl) fun x hx=>?_
  rcases List.mem_cons.1 hx with rfl | hx
  ·exact h.out
  obtain rfl:=List.mem_singleton.1 hx;refine Zil (by decide) (by simp [ZB]) (ZaZ h7 rfl rfl) fun x hx=>?_
  rcases List.mem_cons.1 hx with rfl | hx
  ·exact Zji _ _ _ (by decide) (by decide)
  rcases List.mem_cons.1 hx with rfl | hx
  ·exact h.inp
  obtain rfl:=List.mem_singleton.1 hx;exact h.set
end Go.Proofs.YtjndhfcfcedheaaGreatDoor
