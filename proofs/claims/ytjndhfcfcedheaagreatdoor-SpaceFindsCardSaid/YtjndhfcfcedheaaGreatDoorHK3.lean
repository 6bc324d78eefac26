/- Texts that belong together: RF RU RV KE CI UA UB UC UD UE UG UJ UI KK UH. -/
import Derived.Test.YtjndhfcfcedheaaGreatDoorHK1
import Derived.RangeFuncNested
import Derived.RangeFuncBound
import Derived.RangeFuncCalls
import Derived.RangeFuncLeaves
import Derived.RangeFuncFrom
import Derived.Shelf.Abstract
import Derived.Shelf.RegionOpen
import Derived.OwnWalkIn
import Derived.TacticsInMore
import Derived.LoopNIn
import Derived.LoopIn
import Derived.Test.YtjndhfcfcedheaaGreatDoorHK2
set_option linter.unusedVariables false
set_option linter.unusedSimpArgs false
set_option maxRecDepth 100000
set_option maxHeartbeats 16000000
namespace Go.Proofs.YtjndhfcfcedheaaGreatDoor
open Go.RowKit
structure Z0 (X:Nat→Prop) (A B:World):Prop where
 size:A.heap.size≤B.heap.size
 block:∀ k cs t f,¬ X k→A.heap[k]? = some (.cells cs t f)→B.heap[k]? = some (.cells cs t f)
theorem Z0.refl (X:Nat→Prop) (A:World):Z0 X A A:=⟨Nat.le_refl _,fun _ _ _ _ _ h=>h⟩
theorem Z0.trans {X:Nat→Prop} {A B C:World} (h:Z0 X A B) (k:Z0 X B C):Z0 X A C :=
 ⟨Nat.le_trans h.size k.size,fun i cs t f hx ho=>k.block i cs t f hx (h.block i cs t f hx ho)⟩
theorem Z0.put (X:Nat→Prop) (W:World) (l:Nat) (o o':Obj) (h:W.heap[l]? = some o) (hc:o.isCells=false):Z0 X W (W.putObj l o'):=by
 refine ⟨by simp [World.putObj],fun k cs t f _ ho=>?_⟩
 by_cases hk:k=l
 ·subst hk; rw [h] at ho; injection ho with ho; subst ho; cases hc
 ·rw [World.putObj_heap_other hk]; exact ho
theorem Z0.alloc (X:Nat→Prop) (A:World) (o:Obj):Z0 X A (A.alloc o) :=
 ⟨by simp,fun k cs t f _ h=>(Below.heap_alloc A o k (Array.getElem?_eq_some_iff.1 h).1).trans h⟩
theorem Z0.set (X:Nat→Prop) (A:World) {p:Addr} (hp:X p.block) (u:Value):Z0 X A (A.setCell p u) :=
 ⟨by simp,fun k cs t f hk h=>(Below.heap_setCell A p u k (by rintro rfl; exact hk hp)).trans h⟩
theorem _root_.Go.RowKit.Below.putObj {B:Nat} {a w:World} (h:Below B a w) {b:Nat} (hb:B≤b) (o:Obj):Below B a (w.putObj b o) :=
 h.trans ⟨rfl,rfl,rfl,by simp [World.putObj],fun k hk=>World.putObj_heap_other (by omega)⟩
def ZqV {β:Type} (B:Nat) (J:β→World→Prop):Prop :=
 ∀ s W W',J s W→Below B W W'→J s W'
def ZqR {α:Type} (F:Fence) (n:Nat) (P:Program) (gf:Nat) (lb:Array Value) (encs:α→Array Value) (X:Nat→Prop) (xs:List α) (w:World):Prop :=
 ∀ (l:Nat) (J Jx:List α→World→Prop) (W:World),Below w.heap.size w W→ZqV W.heap.size J→ZqV W.heap.size Jx →
  (∀ pre x r W1,J pre W1→xs=pre++x :: r→YieldAt F (n - 1) P l (encs x) W1 fun e W'=>(e = .returned (.bool true)∧J (pre++[x]) W'∧Z0 X W1 W')∨(e = .returned (.bool false)∧Jx (pre++[x]) W')) →
  J [] W→CallsIn F n P gf (#[.func (.yield l) #[] #[]]++lb) W fun e W'=>(∃ v,e = .returned v)∧(J xs W'∨∃ pre x r,xs=pre++x :: r∧Jx (pre++[x]) W')
def goesOnX (X:Nat→Prop) (W:World) (R:World→Prop) (Rx:Code→World→Prop):Exit→Act→World→Prop
 | .normal,_,W'=>Z0 X W W'∧KeepsOthers W W'∧R W'
 | .ret,_,W'=>KeepsOthers W W'∧Rx .ret W'
 | .exit id,_,W'=>KeepsOthers W W'∧Rx (.exit id) W'
 | .goto t,_,W'=>KeepsOthers W W'∧Rx (.goto t) W'
 | _,_,_=>False
structure Zl (B:Nat) (own:Nat→Prop) (a w:World):Prop where
 os:w.os=a.os
 tape:w.tape=a.tape
 output:w.output=a.output
 size:a.heap.size≤w.heap.size
 block:∀ k,k < B→¬ own k→w.heap[k]? = a.heap[k]?
theorem Zl.of {B:Nat} {own:Nat→Prop} {a w:World} (h:Below B a w):Zl B own a w:=⟨h.os,h.tape,h.output,h.size,fun k hk _=>h.block k hk⟩
theorem Zl.mono {B C:Nat} {own:Nat→Prop} {a w:World} (h:Zl B own a w) (hc:C≤B):Zl C own a w:=⟨h.os,h.tape,h.output,h.size,fun k hk ho=>h.block k (by omega) ho⟩
theorem Zl.set {B:Nat} {own:Nat→Prop} (a:World) {p:Addr} (hp:own p.block) (u:Value):Zl B own a (a.setCell p u) :=
 ⟨rfl,rfl,rfl,by simp,fun k _ ho=>Below.heap_setCell a p u k (by rintro rfl; exact ho hp)⟩
def ZqL {β:Type} (B:Nat) (own:Nat→Prop) (J:β→World→Prop):Prop :=
 ∀ s W W',J s W→Zl B own W W'→J s W'
def Zqu {α:Type} (F:Fence) (n:Nat) (P:Program) (gf:Nat) (lb:Array Value) (encs:α→Array Value) (X own:Nat→Prop) (xs:List α) (w:World):Prop :=
 ∀ (l:Nat) (J Jx:List α→World→Prop) (W:World),Below w.heap.size w W→ZqL W.heap.size own J→ZqL W.heap.size own Jx →
  (∀ pre x r W1,J pre W1→xs=pre++x :: r→YieldAt F (n - 1) P l (encs x) W1 fun e W'=>(e = .returned (.bool true)∧J (pre++[x]) W'∧Z0 X W1 W')∨(e = .returned (.bool false)∧Jx (pre++[x]) W')) →
  J [] W→CallsIn F n P gf (#[.func (.yield l) #[] #[]]++lb) W fun e W'=>(∃ v,e = .returned v)∧(J xs W'∨∃ pre x r,xs=pre++x :: r∧Jx (pre++[x]) W')
section
def Za0 (g:Nat) (w w':World):Prop:=Zl w.heap.size (fun k=>k=g) w w'
section
variable {g:Nat} {w w' w'':World}
theorem Za0.refl (g:Nat) (w:World):Za0 g w w:=⟨rfl,rfl,rfl,Nat.le_refl _,fun _ _ _=>rfl⟩
theorem Za0.of_below (h:Below w.heap.size w w'):Za0 g w w':=Zl.of h
theorem Za0.trans (h:Za0 g w w') (k:Za0 g w' w''):Za0 g w w'' :=
 ⟨k.os.trans h.os,k.tape.trans h.tape,k.output.trans h.output,Nat.le_trans h.size k.size,fun i hi hne=>(k.block i (Nat.lt_of_lt_of_le hi h.size) hne).trans (h.block i hi hne)⟩
theorem Za0.size (h:Za0 g w w'):w.heap.size≤w'.heap.size:=Zl.size h
theorem Za0.set (w:World) (o:Nat) (u:Value):Za0 g w (w.setCell ⟨g,o,none⟩ u):=Zl.set (own:=fun k=>k=g) w (p:=⟨g,o,none⟩) rfl u
theorem Za0.alloc (w:World) (o:Obj):Za0 g w (w.alloc o):=Zl.of ((Below.refl _ _).alloc (Nat.le_refl _) o)
theorem Za0.below (h:Za0 g w w') (hg:g < w.heap.size):Below g w w':=⟨h.os,h.tape,h.output,Zl.size h,fun k hk=>h.block k (by omega) (by omega)⟩
theorem Blk.upd {k:Nat} {t:TypeId} {cs:Array Value} (h:Blk w k t cs) (hu:Za0 g w w') (hk:k≠g):Blk w' k t cs:=(hu.block k h.lt hk).trans h
end
def Zqz (R:Option Nat) (bl:Nat) (w:World) (e:Ending) (w':World):Prop :=
 Za0 bl w w'∧∃ (b:Bool) (z:Int),e = .returned (.bool b)∧Blk w' bl 3 #[.int .i64 z]∧(R=none∧b=false∨∃ r:Nat,R=some r∧b=true∧z=r)
def Zkk (bl bv:Nat):Array Value:=#[.func (.func 110) #[] #[.pointer (some ⟨bl,0,none⟩),.pointer (some ⟨bv,0,none⟩)]]
def ZnF (x:KE):Prop:=∀ (deep left bl bv B:Nat) (w:World),deep≤32→left≤256→x.In w B→B≤bl→bl≠bv→Blk w bl 3 #[.int .i64 left]→Blk w bv 116 (Zkk bl bv) →
 Calls Tryz.prog 110 #[.agg x.cells,.int .i64 ((deep:Int)+1),.pointer (some ⟨bl,0,none⟩),.pointer (some ⟨bv,0,none⟩)] w (Zqz (ZU deep left x) bl w)
def ZqB (R:Option Nat) (bl:Nat) (w:World) (e:Ending) (w':World):Prop :=
 Za0 bl w w'∧∃ (b:Bool) (z:Int),e = .returned (.bool b)∧Blk w' bl 3 #[.int .i64 z]∧(R=none∧b=true∨∃ r:Nat,R=some r∧b=false∧z=r)
theorem ZpS (x:KE) (hx:ZnF x) (deep left bl bv bd B:Nat) (w:World) (hd:deep≤31) (hl:left≤256) (hi:x.In w B) (hB:B≤bl) (hlv:bl≠bv) (hbl:Blk w bl 3 #[.int .i64 left]) (hbv:Blk w bv 116 (Zkk bl bv)) (hbd:Blk w bd 3 #[.int .i64 ((deep:Int)+1)]) :
  Calls Tryz.prog 113 #[.agg x.cells,.pointer (some ⟨bv,0,none⟩),.pointer (some ⟨bd,0,none⟩)] w (ZqB (ZU (deep+1) left x) bl w):=by
 obtain ⟨W0,hW0⟩:∃ W,w.alloc (.cells x.cells 65)=W:=⟨_,rfl⟩
 have b0:Blk W0 w.heap.size 65 x.cells:=by rw [← hW0]; exact Blk.new w _ _
 have K0:Hid (Below w.heap.size w W0):=Lh (by rw [← hW0]; exact (Below.refl _ _).alloc (Nat.le_refl _) _);have HC:=Lh (hx (deep+1) left bl bv B W0 (by omega) hl (hi.below (K0.out.mono (by have:=hbl.lt; omega))) hB hlv (hbl.call K0.out) (hbv.call K0.out));have c1:=(hbv.call K0.out).cell 0;have c2:=(hbd.call K0.out).cell 0
 simp [Zkk] at c1 c2
 generalize ZU (deep+1) left x=R at *;simp only [KE.cells] at hW0 b0 HC ⊢;obtain ⟨e0,e1,e2,e3,e4,e5⟩:=b0.c6;simp at e0 e1 e2 e3 e4 e5
 have hs:(((deep+1:Nat):Int)+1)=(deep:Int)+1+1:=by omega
 rw [hs] at HC;clear hs hx hi hbl hbv hbd b0;go_enter Tryz.func113,Tryz.ntmps113
 go_wp2_with (go_at_call 110; (with_reducible refine HC.out.mono ?_); rintro e w1 ⟨hu,b,z,rfl,hb,hR⟩
              have HU:=Lh hu;have HB1:=Lh hb;have HR:=Lh hR
              clear hu hb hR)
 go_ret;refine ⟨(Za0.of_below K0.out).trans HU.out,!b,z,rfl,HB1.out,?_⟩
 rcases HR.out with ⟨h1,h2⟩ | ⟨r,h1,h2,h3⟩
 ·exact .inl ⟨h1,by rw [h2]; rfl⟩
 ·exact .inr ⟨r,h1,by rw [h2]; rfl,h3⟩
end
structure FrL where
 parent:Int
 down:Int
 above:Int
 below:Int
 temp:Int
instance:Inhabited FrL:=⟨⟨0,0,0,0,0⟩⟩
def FrL.cells (x:FrL):List Value:=[.int .i64 x.parent,.int .i64 x.down,.int .i64 x.above,.int .i64 x.below,.int .i64 x.temp]
def FrL.Ok (x:FrL):Prop:=Zy x.parent∧Zy x.down∧Zy x.above∧Zy x.below∧Zy x.temp
def Zem (l:List FrL):List Value:=l.flatMap FrL.cells
theorem FrL.cells_len (x:FrL):x.cells.length=5:=rfl
structure SpL where
 Af:Option Addr
 cf:Nat
 fr:List FrL
 A1:Option Addr
 c1:Nat
 vat:List Int
 A2:Option Addr
 c2:Nat
 vin:List Int
 A3:Option Addr
 c3:Nat
 cat:List Int
 A4:Option Addr
 c4:Nat
 cin:List Int
def ZO (l:List Int):List Value:=l.map fun v=>.int .i64 v
theorem Za7 {m:List Int} {k:Nat} {v:Int} (h:m[k]? = some v):(ZO m)[k]? = some (.int .i64 v):=by simp [ZO,h]
def SpL.cells (s:SpL):Array Value:=#[.slice s.Af s.fr.length s.cf,.slice s.A1 s.vat.length s.c1,.slice s.A2 s.vin.length s.c2,.slice s.A3 s.cat.length s.c3,.slice s.A4 s.cin.length s.c4]
def Zbf (w:World) (B:Nat) (A:Option Addr) (l:List Int):Prop:=ZB l∧Zo w B 1 A l.length (ZO l)∧∀ v∈l,Zy v
def SpL.In (w:World) (B:Nat) (s:SpL):Prop :=
 (ZB s.fr∧Zo w B 5 s.Af s.fr.length (Zem s.fr)∧∀ x∈s.fr,x.Ok)∧Zbf w B s.A1 s.vat∧Zbf w B s.A2 s.vin∧Zbf w B s.A3 s.cat∧Zbf w B s.A4 s.cin
theorem Zbf.below {w w':World} {B:Nat} {A:Option Addr} {l:List Int} (h:Zbf w B A l) (hb:Below B w w'):Zbf w' B A l:=⟨h.1,h.2.1.below hb,h.2.2⟩
theorem SpL.In.below {w w':World} {B:Nat} {s:SpL} (h:s.In w B) (hb:Below B w w'):s.In w' B :=
 ⟨⟨h.1.1,h.1.2.1.below hb,h.1.2.2⟩,h.2.1.below hb,h.2.2.1.below hb,h.2.2.2.1.below hb,h.2.2.2.2.below hb⟩
theorem Zej {w:World} {B:Nat} {A:Option Addr} {l:List Int} (h:Zbf w B A l) {k:Nat} (hk:k < l.length) :
  ∃ b off v,A=some ⟨b,off,none⟩∧b < B∧l[k]? = some v∧Zy v∧w.cell? ⟨b,off+k,none⟩=some (.int .i64 v):=by
 obtain ⟨b,off,rfl,hb,hc⟩:=h.2.1.addr (by omega) (by omega);have hv:l[k]? = some l[k]:=List.getElem?_eq_getElem hk;exact ⟨b,off,l[k],rfl,hb,hv,h.2.2 _ (List.getElem_mem hk),hc k _ (Za7 hv)⟩
theorem Zj6 {w:World} {B:Nat} {s:SpL} (h:s.In w B) {k:Nat} (hk:k < s.fr.length) :
  ∃ b off x,s.Af=some ⟨b,off,none⟩∧b < B∧s.fr[k]? = some x∧x.Ok∧w.cell? ⟨b,off+k * 5,none⟩=some (.int .i64 x.parent)∧w.cell? ⟨b,off+k * 5+1,none⟩=some (.int .i64 x.down) ∧
   w.cell? ⟨b,off+k * 5+2,none⟩=some (.int .i64 x.above)∧w.cell? ⟨b,off+k * 5+3,none⟩=some (.int .i64 x.below)∧w.cell? ⟨b,off+k * 5+4,none⟩=some (.int .i64 x.temp):=by
 obtain ⟨b,off,x,h1,h2,h3,h4,hc⟩:=Zeb FrL.cells_len (by decide) h.1.2.1 hk;exact ⟨b,off,x,h1,h2,h3,h.1.2.2 x h4,hc 0 _ rfl,hc 1 _ rfl,hc 2 _ rfl,hc 3 _ rfl,hc 4 _ rfl⟩
def upF (fr:List FrL) (t:Int):Nat→Nat→Int→Option Int
 | 0,_,_=>none
 | q+1,f,n=>if (f:Int)=t then some n else match fr[f]? with
   | none=>none
   | some x=>if x.parent < 0∨(f:Int)≤x.parent then none else upF fr t q x.parent.toNat (wrap64 (n+x.down))
def Zbr (fr:List FrL) (frame i:Int) (at_ in_:List Int):Option Int :=
 if frame < 0∨(fr.length:Int)≤frame∨i < 0∨(at_.length:Int)≤i∨(in_.length:Int)≤i then none
 else upF fr (in_.getD i.toNat 0) (frame.toNat+1) frame.toNat (at_.getD i.toNat 0)
theorem Zog (fr:List FrL) (t:Int):∀ (q q' f:Nat) (n:Int),f < q→f < q'→upF fr t q f n=upF fr t q' f n:=by
 intro q
 induction q with
 | zero=>intro q' f n h; omega
 | succ q ih =>
   intro q' f n h h'
   obtain ⟨p,rfl⟩:∃ p,q'=p+1:=⟨q' - 1,by omega⟩
   rw [upF,upF]
   by_cases h1:(f:Int)=t
   ·rw [if_pos h1,if_pos h1]
   ·rw [if_neg h1,if_neg h1]
    cases hx:fr[f]? with
    | none=>rfl
    | some x =>
      simp only
      by_cases h2:x.parent < 0∨(f:Int)≤x.parent
      ·rw [if_pos h2,if_pos h2]
      ·rw [if_neg h2,if_neg h2];exact ih p _ _ (by omega) (by omega)
theorem Zof {fr:List FrL} {t:Int} {f:Nat} {n:Int} (h:(f:Int)=t):upF fr t (f+1) f n=some n:=by rw [upF,if_pos h]
theorem Zoe {fr:List FrL} {t:Int} {f:Nat} {n:Int} {x:FrL} (h:¬ (f:Int)=t) (hx:fr[f]? = some x) (hp:x.parent < 0∨(f:Int)≤x.parent):upF fr t (f+1) f n=none:=by rw [upF,if_neg h,hx]; simp only; rw [if_pos hp]
theorem Zpq {fr:List FrL} {t:Int} {f:Nat} {n:Int} {x:FrL} (h:¬ (f:Int)=t) (hx:fr[f]? = some x) (hp:¬ (x.parent < 0∨(f:Int)≤x.parent)):upF fr t (f+1) f n=upF fr t (x.parent.toNat+1) x.parent.toNat (wrap64 (n+x.down)):=by
 rw [upF,if_neg h,hx]
 simp only
 rw [if_neg hp];exact Zog fr t _ _ _ _ (by omega) (by omega)
def Zh9 (o:Option Int):Value:=.tuple #[.int .i64 (o.getD 0),.bool o.isSome]
theorem ZkG (s:SpL) (frame i:Int) (A1:Option Addr) (p1:Nat) (at_:List Int) (A2:Option Addr) (p2:Nat) (in_:List Int) (B:Nat) (w:World) (hi:s.In w B) (h1:Zbf w B A1 at_) (h2:Zbf w B A2 in_) (hB:B≤w.heap.size) (hf:Zy frame) (hi64:Zy i) :
  Calls Tryz.prog 55 #[.agg s.cells,.int .i64 frame,.int .i64 i,.slice A1 at_.length p1,.slice A2 in_.length p2] w (Zu (Zh9 (Zbr s.fr frame i at_ in_)) w):=by
 obtain ⟨W0,hW0⟩:∃ W,w.alloc (.cells s.cells 38)=W:=⟨_,rfl⟩
 have K0:Hid (Below w.heap.size w W0):=Lh (by rw [← hW0]; exact (Below.refl _ _).alloc (Nat.le_refl _) _)
 have b0:Blk W0 w.heap.size 38 s.cells:=by rw [← hW0]; exact Blk.new _ _ _
 have HI:Hid (s.In W0 B):=Lh (hi.below (K0.out.mono hB));have H1:Hid (Zbf W0 B A1 at_):=Lh (h1.below (K0.out.mono hB));have H2:Hid (Zbf W0 B A2 in_):=Lh (h2.below (K0.out.mono hB));have HBL:Hid (B≤w.heap.size):=Lh hB
 have HQ:Hid (Zbr s.fr frame i at_ in_=if frame < 0∨(s.fr.length:Int)≤frame∨i < 0∨(at_.length:Int)≤i∨(in_.length:Int)≤i then none
  else upF s.fr (in_.getD i.toNat 0) (frame.toNat+1) frame.toNat (at_.getD i.toNat 0)):=Lh rfl
 generalize Zbr s.fr frame i at_ in_=R at *;simp only [SpL.cells] at b0 hW0 ⊢;have l0:=hi.1.1;have l1:=h1.1;have l2:=h2.1;unfold ZB at l0 l1 l2
 obtain ⟨nf,hnf⟩:∃ n,s.fr.length=n:=⟨_,rfl⟩
 obtain ⟨n1,hn1⟩:∃ n,at_.length=n:=⟨_,rfl⟩
 obtain ⟨n2,hn2⟩:∃ n,in_.length=n:=⟨_,rfl⟩
 have HN:=Lh hnf;have HN1:=Lh hn1;have HN2:=Lh hn2;rw [hnf] at b0 hW0 l0 HQ ⊢;rw [hn1] at l1 HQ ⊢;rw [hn2] at l2 HQ ⊢;obtain ⟨c0,c1,c2,c3,c4⟩:=b0.c5;simp at c0 c1 c2 c3 c4;have hwl:=b0.lt;clear b0 hi h1 h2 hB hnf hn1 hn2 hf hi64;go_enter Tryz.func55,Tryz.ntmps55
 by_cases q1:frame < 0
 ·obtain rfl:R=none:=by rw [HQ.out,if_pos (.inl q1)]
  go_wp2
  go_step3
  go_wp2
  rw [Exit.noGoto_ret];go_ret2;exact ⟨rfl,K0.out⟩
 by_cases q2:(nf:Int)≤frame
 ·obtain rfl:R=none:=by rw [HQ.out,if_pos (.inr (.inl q2))]
  go_wp2
  go_step3
  go_wp2
  rw [Exit.noGoto_ret];go_ret2;exact ⟨rfl,K0.out⟩
 by_cases q3:i < 0
 ·obtain rfl:R=none:=by rw [HQ.out,if_pos (.inr (.inr (.inl q3)))]
  go_wp2
  go_step3
  go_wp2
  rw [Exit.noGoto_ret];go_ret2;exact ⟨rfl,K0.out⟩
 by_cases q4:(n1:Int)≤i∨(n2:Int)≤i
 ·obtain rfl:R=none:=by rw [HQ.out,if_pos (by omega)]
  by_cases hm:n2 < n1 <;> rcases q4 with q4 | q4
  all_goals
   go_wp2
   go_step3
   go_wp2
   try rw [Exit.noGoto_ret]
   go_ret2;exact ⟨rfl,K0.out⟩
 obtain ⟨k,rfl⟩:∃ k:Nat,i=k:=⟨i.toNat,by omega⟩
 obtain ⟨f,rfl⟩:∃ k:Nat,frame=k:=⟨frame.toNat,by omega⟩
 have hk1:k < at_.length:=by have:=HN1.out; omega
 have hk2:k < in_.length:=by have:=HN2.out; omega
 obtain ⟨ba,oa,va,rfl,hba,hva,-,ca⟩:=Zej H1.out hk1;obtain ⟨bi,oi,vi,rfl,hbi,hvi,-,ci⟩:=Zej H2.out hk2
 have HR:Hid (upF s.fr vi (f+1) f va=R):=Lh (by
  rw [HQ.out,if_neg (by omega)]
  simp only [Int.toNat_natCast,List.getD_eq_getElem?_getD,hva,hvi,Option.getD_some])
 clear HQ
 have hk1I:(k:Int) < n1:=by omega
 have hk2I:(k:Int) < n2:=by omega
 have hfI:(f:Int) < nf:=by omega
 clear q3 q4 q1 q2
 by_cases hm:n2 < n1
 all_goals
  iterate 2
   go_wp2
   go_step3
  go_wp2
  go_loopw [12,13,14] (fun a fd b wr=>∃ (g:Nat) (nn:Int),a = .int .i64 nn∧fd = .bool false∧b = .int .i64 g∧g < nf∧Hid (upF s.fr vi (g+1) g nn=R)∧Hid (Below W0.heap.size W0 wr)) (fun _ _ b _=>(intOf b).toNat)
  case atStart=>exact ⟨f,va,rfl,rfl,rfl,by omega,HR,Lh (Below.refl _ _)⟩
  case round =>
   clear HR;obtain ⟨g,nn,rfl,rfl,rfl,hg,HU,HB⟩:=hrel
   have hgI:(g:Int) < nf:=by omega
   have hw0:=(ZbT HB.out).1;have ci':=(hw0 bi (oi+k) (Nat.lt_of_lt_of_le hbi (Nat.le_trans HBL.out K0.out.size))).trans ci;have c0':=(hw0 w.heap.size 0 hwl).trans c0;obtain ⟨bf,of,x,hAf,hbf,hx,hxo,f0,f1,f2,f3,f4⟩:=Zj6 (HI.out.below (HB.out.mono (Nat.le_trans HBL.out K0.out.size))) (k:=g) (by rw [HN.out]; exact hg);rw [hAf] at c0';have HBS:=Lh (K0.out.trans (HB.out.mono K0.out.size));have HX:=Lh hx
   have z1:bf < wr.heap.size:=by have:=HB.out.size; have:=K0.out.size; have:=HBL.out; omega
   have z2:bi < wr.heap.size:=by have:=HB.out.size; have:=K0.out.size; have:=HBL.out; omega
   have z3:w.heap.size < wr.heap.size:=by have:=HB.out.size; omega
   clear hw0 ci c0 hAf hx
   by_cases he:(g:Int)=vi
   ·have HE:=Lh (Zof (fr:=s.fr) (n:=nn) he);obtain rfl:R=some nn:=HU.out.symm.trans HE.out
    have he2:((g:Int) == vi)=true:=by simpa using he
    clear he
    go_wp2
    try rw [Exit.noGoto_ret]
    go_ret2;exact ⟨rfl,HBS.out⟩
   ·have he2:((g:Int) == vi)=false:=by simpa using he
    by_cases hp:x.parent < 0∨(g:Int)≤x.parent
    ·have HE:=Lh (Zoe (n:=nn) he HX.out hp);obtain rfl:R=none:=HU.out.symm.trans HE.out
     rcases hp with hp | hp
     all_goals
      go_wp2
      all_goals
       try rw [Exit.noGoto_ret]
       go_ret2;exact ⟨rfl,HBS.out.alloc HBS.out.size _⟩
    ·have HE:=Lh (Zpq (n:=nn) he HX.out hp)
     have hp1:¬ x.parent < 0:=by omega
     have hp2:¬ (g:Int)≤x.parent:=by omega
     obtain ⟨pp,hpp⟩:∃ p:Nat,x.parent=p:=⟨x.parent.toNat,by omega⟩
     have HPP:=Lh hpp;rw [hpp] at f0 hp1 hp2;clear he hp hpp
     have HU2:Hid (upF s.fr vi (pp+1) pp (wrap64 (nn+x.down))=R):=Lh (by
      have h1:=HE.out;rw [HPP.out,Int.toNat_natCast] at h1
      exact h1.symm.trans HU.out)
     go_wp2
     go_roundw
     case rel=>exact ⟨pp,_,rfl,rfl,rfl,by omega,HU2,Lh (HB.out.alloc HB.out.size _)⟩
     case measure=>simp [intOf]; omega
structure Zr where
 par:List Int
 uses:List (KP×Nat)
 grp:List (List Nat)
 out:List Nat
def ZeX (p:KP):Bool:=p.kind == 10 || p.kind == 11
mutual
def Z7 (f:Nat):KP→Zr→Zr
 | ⟨kind,c,v,item,At,ct,tos,Ae,ce,e,Ag,cg,g,Al,cl,l⟩,w =>
   let w1:Zr:={ w with uses:=w.uses++[(⟨kind,c,v,item,At,ct,tos,Ae,ce,e,Ag,cg,g,Al,cl,l⟩,f)] }
   if kind == 10 || kind == 11 then
    let q:=Zj f l w1 []
    ZF f g { q.1 with grp:=q.1.grp++[q.2],out:=q.1.out++[f] }
   else ZF f g (ZE f l w1)
def ZE (f:Nat):List KP→Zr→Zr
 | [],w=>w
 | p :: l,w=>ZE f l (Z7 f p w)
def Zj (f:Nat):List KP→Zr→List Nat→Zr×List Nat
 | [],w,ch=>(w,ch)
 | p :: l,w,ch=>Zj f l (Z7 w.par.length p { w with par:=w.par++[(f:Int)] }) (ch++[w.par.length])
def ZF (f:Nat):List KG→Zr→Zr
 | [],w=>w
 | g :: l,w=>ZF f l (Zga f g w)
def Zga (f:Nat):KG→Zr→Zr
 | ⟨_,_,_,_,_,_,_,_,body⟩,w=>match body with
   | []=>w
   | p :: _=>Z7 f p w
end
def Zd (p:KP):Zr:=Z7 0 p ⟨[-1],[],[],[]⟩
mutual
def ZaQ:KE→List Int
 | ⟨k,_,_,_,v,_,_,l⟩=>(if k=2∨k=3 then [v] else [])++ZbK l
def ZbK:List KE→List Int
 | []=>[]
 | e :: l=>ZaQ e++ZbK l
end
theorem ZgR (e:KE):ZaQ e=(if e.kind=2∨e.kind=3 then [e.v] else [])++ZbK e.l:=by
 obtain ⟨k,o,t,n,v,A,c,l⟩:=e;rw [ZaQ]
theorem ZbV:∀ (l:List KE),ZbK l=l.flatMap ZaQ
 | []=>by rw [ZbK]; rfl
 | e :: l=>by rw [ZbK,ZbV l]; rfl
def ZcZ (p:KPl):List Int:=p.v :: ZbK p.l
def Zgb (g:KG):List Int:=ZaQ g.cond++(if g.kind=3 then ZcZ g.dst else if g.kind=4 then ZaQ g.time else [])
def ZbP (p:KP):List Int:=(if p.kind=3 then [p.v] else [])++p.tos.flatMap ZcZ++ZbK p.e++p.g.flatMap Zgb
def Zau (p:KP):List Int:=(if p.kind=5∨p.kind=6 then [p.c] else [])++p.g.flatMap (fun g=>if g.kind=3 then [g.c] else [])
def ZcO (g:KG):List KE:=[g.cond]++(if g.kind=3 then g.dst.l else if g.kind=4 then [g.time] else [])
def ZbM (p:KP):List KE:=p.tos.flatMap (fun t=>t.l)++p.e++p.g.flatMap ZcO
def ZbI (par:List Int):Nat→Int→Int→Int
 | 0,a,_=>a
 | q+1,a,b=>if a=b then a else if a < b then ZbI par q a (par.getD b.toNat (-1)) else ZbI par q (par.getD a.toNat (-1)) b
def Zay (par:List Int) (a b:Int):Int:=if a < 0 then b else ZbI par (2 * par.length+2) a b
def Zal (tm:KE→Nat) (p:KP):Nat:=(ZbM p).foldl (fun n e=>n+1+tm e) 1
def ZiI (w:Zr) (n:Nat):List Int:=w.uses.foldl (fun m u=>(ZbP u.1).foldl (fun m v=>m.set v.toNat (Zay w.par (m.getD v.toNat (-1)) u.2)) m) (List.replicate n (-1))
def Zpj (w:Zr) (c:Int):Bool:=w.uses.any fun u=>(Zau u.1).contains c
def Zg8 (w:Zr) (outside:Nat→Bool) (n:Nat):List Int:=(List.range n).map fun c=>if 2≤c∧outside c=false∧Zpj w (c:Int)=true then 0 else -1
def Zpt (tm:KE→Nat) (w:Zr) (f:Nat):Nat:=w.uses.foldl (fun m u=>if u.2=f then max m (Zal tm u.1) else m) 0
def ZaN (ins:List Int) (sz:List Nat) (f:Int):Nat→Nat
 | 0=>0
 | i+1=>ZaN ins sz f i+(if ins.getD i (-1)=f then sz.getD i 0 else 0)
def Zbq (start:Int→Nat) (ins:List Int) (sz:List Nat):List Int:=(List.range ins.length).map fun i=>if ins.getD i (-1) < 0 then -1 else ((start (ins.getD i (-1))+ZaN ins sz (ins.getD i (-1)) i:Nat):Int)
def Zz (vs:List ZZ):List Nat:=vs.map fun x=>(max 1 x.dim).toNat
def stepG (q:Int×List FrL) (f:Nat):Int×List FrL :=
 let x:=q.2.getD f default
 let d:=q.1+x.above
 let b:=d+x.below
 let fr:=q.2.set f ⟨x.parent,d,x.above,x.below,x.temp⟩
 let y:=fr.getD x.parent.toNat default
 (b,fr.set x.parent.toNat ⟨y.parent,y.down,y.above,max y.below b,y.temp⟩)
def Zpu (fr:List FrL) (g:List Nat):List FrL:=(g.foldl stepG (5,fr)).2
structure Zn3 where
 fr:List FrL
 vat:List Int
 vin:List Int
 cat:List Int
 cin:List Int
def Zpv (tm:KE→Nat) (vs:List ZZ) (nc:Nat) (outside:Nat→Bool) (w:Zr):Zn3 :=
 let vin:=ZiI w vs.length
 let cin:=Zg8 w outside nc
 let nv:=fun f:Int=>2+ZaN vin (Zz vs) f vs.length
 let nx:=fun f:Int=>nv f+ZaN cin (List.replicate nc 1) f nc
 let fr0:=(List.range w.par.length).map fun f=>(⟨w.par.getD f (-1),0,((nx f+Zpt tm w f:Nat):Int),5,(nx f:Nat)⟩:FrL)
 ⟨w.grp.foldl Zpu fr0,Zbq (fun _=>2) vin (Zz vs),vin,Zbq nv cin (List.replicate nc 1),cin⟩
def Zh (k:KK) (b:Nat):KP:=if k.procs.length=0 then k.root else k.root.l.getD b default
def Zm0 (k:KK) (b c:Nat):Bool:=decide (c < 2) || (List.range k.procs.length).any fun i=>i != b && Zpj (Zd (k.root.l.getD i default)) (c:Int)
def makeL (tm:KE→Nat) (k:KK) (branch:Int):Zn3×Int :=
 if Zfd k=false then (⟨[],[],[],[],[]⟩,2)
 else if branch < 0∨(max 1 k.procs.length:Nat)≤branch then (⟨[],[],[],[],[]⟩,4)
 else
  let s:=Zpv tm k.vars k.chans.length (Zm0 k branch.toNat) (Zd (Zh k branch.toNat))
  if 16384 < (s.fr.getD 0 default).above+(s.fr.getD 0 default).below then (⟨[],[],[],[],[]⟩,240) else (s,0)
def Ext (w w':Zr):Prop:=w.par <+: w'.par∧w.uses <+: w'.uses∧w.grp <+: w'.grp
theorem Ext.refl (w:Zr):Ext w w:=⟨List.prefix_refl _,List.prefix_refl _,List.prefix_refl _⟩
theorem Ext.trans {a b c:Zr} (h:Ext a b) (k:Ext b c):Ext a c:=⟨h.1.trans k.1,h.2.1.trans k.2.1,h.2.2.trans k.2.2⟩
structure Zak (w:Zr):Prop where
 root:w.par[0]? = some (-1)
 up:∀ (i:Nat) (x:Int),1≤i→w.par[i]? = some x→0≤x∧x < i
 uses:∀ u∈w.uses,u.2 < w.par.length
 grp:∀ g∈w.grp,∃ f,f < w.par.length∧∀ c∈g,w.par[c]? = some (f:Int)
 outl:w.out.length=w.grp.length
 outs:∀ (i f:Nat) (g:List Nat),w.out[i]? = some f→w.grp[i]? = some g→f < w.par.length∧∀ c∈g,w.par[c]? = some (f:Int)
theorem Zak.pos {w:Zr} (h:Zak w):0 < w.par.length:=(List.getElem?_eq_some_iff.1 h.root).1
theorem Zb5 {α:Type} {a b:List α} (h:a <+: b) {i:Nat} {x:α} (hx:a[i]? = some x):b[i]? = some x:=by
 obtain ⟨t,rfl⟩:=h;rw [List.getElem?_append_left (List.getElem?_eq_some_iff.1 hx).1];exact hx
theorem ZI {α:Type} {a b:List α} (h:a <+: b):a.length≤b.length:=h.length_le
theorem Zak.use {w:Zr} (h:Zak w) {p:KP} {f:Nat} (hf:f < w.par.length):Zak { w with uses:=w.uses++[(p,f)] } :=
 ⟨h.root,h.up,fun u hu=>by
  rcases List.mem_append.1 hu with hu | hu
  ·exact h.uses u hu
  ·simp at hu; subst hu; exact hf,h.grp,h.outl,h.outs⟩
theorem Zak.frame {w:Zr} (h:Zak w) {f:Nat} (hf:f < w.par.length):Zak { w with par:=w.par++[(f:Int)] }:=by
 refine ⟨?_,?_,?_,?_,h.outl,?_⟩
 ·rw [List.getElem?_append_left h.pos]; exact h.root
 ·intro i x hi hx
  by_cases hl:i < w.par.length
  ·rw [List.getElem?_append_left hl] at hx; exact h.up i x hi hx
  ·rw [List.getElem?_append_right (by omega)] at hx
   have h0:i - w.par.length=0:=by
    have:=(List.getElem?_eq_some_iff.1 hx).1;simp at this
    omega
   rw [h0] at hx;simp at hx
   omega
 ·intro u hu;have:=h.uses u hu;simp only [List.length_append,List.length_cons,List.length_nil]
  omega
 ·intro g hg;obtain ⟨q,h1,h2⟩:=h.grp g hg;refine ⟨q,by simp only [List.length_append,List.length_cons,List.length_nil]; omega,fun c hc=>?_⟩;have:=h2 c hc;rw [List.getElem?_append_left (List.getElem?_eq_some_iff.1 this).1];exact this
 ·intro i q g hi hg;obtain ⟨h1,h2⟩:=h.outs i q g hi hg;refine ⟨by simp only [List.length_append,List.length_cons,List.length_nil]; omega,fun c hc=>?_⟩;have:=h2 c hc;rw [List.getElem?_append_left (List.getElem?_eq_some_iff.1 this).1];exact this
theorem Zak.group {w:Zr} (h:Zak w) {g:List Nat} {f:Nat} (hf:f < w.par.length) (hg:∀ c∈g,w.par[c]? = some (f:Int)):Zak { w with grp:=w.grp++[g],out:=w.out++[f] } :=
 ⟨h.root,h.up,h.uses,fun x hx=>by
  rcases List.mem_append.1 hx with hx | hx
  ·exact h.grp x hx
  ·simp at hx; subst hx; exact ⟨f,hf,hg⟩,by simp [h.outl],fun i q x hi hx=>by
  have hl:=h.outl
  by_cases hlt:i < w.out.length
  ·rw [List.getElem?_append_left hlt] at hi;rw [List.getElem?_append_left (by omega)] at hx;exact h.outs i q x hi hx
  ·rw [List.getElem?_append_right (by omega)] at hi;rw [List.getElem?_append_right (by omega)] at hx;have h1:=List.mem_of_getElem? hi;have h2:=List.mem_of_getElem? hx;simp at h1 h2;subst h1 h2
   exact ⟨hf,hg⟩⟩
theorem Zd4 (f:Nat) (p:KP) (w:Zr):Z7 f p w =
  if ZeX p then ZF f p.g { (Zj f p.l { w with uses:=w.uses++[(p,f)] } []).1 with grp:=(Zj f p.l { w with uses:=w.uses++[(p,f)] } []).1.grp++[(Zj f p.l { w with uses:=w.uses++[(p,f)] } []).2],out:=(Zj f p.l { w with uses:=w.uses++[(p,f)] } []).1.out++[f] }
  else ZF f p.g (ZE f p.l { w with uses:=w.uses++[(p,f)] }):=by
 obtain ⟨kind,c,v,item,At,ct,tos,Ae,ce,e,Ag,cg,g,Al,cl,l⟩:=p;rw [Z7]
 rfl
theorem Zcz (f:Nat) (g:KG) (w:Zr):Zga f g w=match g.body with
  | []=>w
  | p :: _=>Z7 f p w:=by
 obtain ⟨kind,cond,c,item,dst,time,Ab,cb,body⟩:=g
 cases body with
 | nil=>rw [Zga]
 | cons x r=>rw [Zga]
theorem ZaW (p:KP):∀ (f:Nat) (w:Zr),Zak w→f < w.par.length→Zak (Z7 f p w)∧Ext w (Z7 f p w):=by
 induction p using KP.ind with
 | h p ihg ihl =>
   intro f w ht hf
   have hu:Zak { w with uses:=w.uses++[(p,f)] }∧Ext w { w with uses:=w.uses++[(p,f)] }:=⟨ht.use hf,List.prefix_refl _,List.prefix_append _ _,List.prefix_refl _⟩
   have hgs:∀ (gs:List KG),(∀ g∈gs,g∈p.g)→∀ w,Zak w→f < w.par.length→Zak (ZF f gs w)∧Ext w (ZF f gs w):=by
    intro gs
    induction gs with
    | nil=>intro _ w h1 _; rw [ZF]; exact ⟨h1,Ext.refl _⟩
    | cons g gs ihgs =>
      intro hsub w h1 h2;rw [ZF,Zcz]
      match hb:g.body with
      | []=>exact ihgs (fun x hx=>hsub x (by simp [hx])) w h1 h2
      | q :: r =>
        obtain ⟨h3,h4⟩:=ihg g (hsub g (by simp)) q (by rw [hb]; simp) f w h1 h2;obtain ⟨h5,h6⟩:=ihgs (fun x hx=>hsub x (by simp [hx])) _ h3 (Nat.lt_of_lt_of_le h2 (ZI h4.1));exact ⟨h5,h4.trans h6⟩
   have hps:∀ (l:List KP),(∀ x∈l,x∈p.l)→∀ w,Zak w→f < w.par.length→Zak (ZE f l w)∧Ext w (ZE f l w):=by
    intro l
    induction l with
    | nil=>intro _ w h1 _; rw [ZE]; exact ⟨h1,Ext.refl _⟩
    | cons q l ihq =>
      intro hsub w h1 h2;rw [ZE];obtain ⟨h3,h4⟩:=ihl q (hsub q (by simp)) f w h1 h2;obtain ⟨h5,h6⟩:=ihq (fun x hx=>hsub x (by simp [hx])) _ h3 (Nat.lt_of_lt_of_le h2 (ZI h4.1));exact ⟨h5,h4.trans h6⟩
   have hbr:∀ (l:List KP),(∀ x∈l,x∈p.l)→∀ w ch,Zak w→f < w.par.length→(∀ c∈ch,w.par[c]? = some (f:Int)) →
     Zak (Zj f l w ch).1∧Ext w (Zj f l w ch).1∧∀ c∈(Zj f l w ch).2,(Zj f l w ch).1.par[c]? = some (f:Int):=by
    intro l
    induction l with
    | nil=>intro _ w ch h1 _ h3; rw [Zj]; exact ⟨h1,Ext.refl _,h3⟩
    | cons q l ihq =>
      intro hsub w ch h1 h2 h3;rw [Zj];have h4:=h1.frame h2
      have h5:Ext w { w with par:=w.par++[(f:Int)] }:=⟨List.prefix_append _ _,List.prefix_refl _,List.prefix_refl _⟩
      obtain ⟨h6,h7⟩:=ihl q (hsub q (by simp)) w.par.length { w with par:=w.par++[(f:Int)] } h4 (by simp);have h8:=h5.trans h7
      obtain ⟨h9,h10,h11⟩:=ihq (fun x hx=>hsub x (by simp [hx])) _ (ch++[w.par.length]) h6 (Nat.lt_of_lt_of_le h2 (ZI h8.1)) (by
       intro c hc
       rcases List.mem_append.1 hc with hc | hc
       ·exact Zb5 h8.1 (h3 c hc)
       ·simp at hc;subst hc
        exact Zb5 h7.1 (by simp))
      exact ⟨h9,h8.trans h10,h11⟩
   rw [Zd4]
   split
   ·obtain ⟨h1,h2,h3⟩:=hbr p.l (fun x hx=>hx) _ [] hu.1 hf (by simp);have hf2:=Nat.lt_of_lt_of_le hf (ZI h2.1);have h4:=h1.group hf2 h3;obtain ⟨h5,h6⟩:=hgs p.g (fun x hx=>hx) _ h4 hf2;refine ⟨h5,hu.2.trans (h2.trans (Ext.trans ?_ h6))⟩;exact ⟨List.prefix_refl _,List.prefix_refl _,List.prefix_append _ _⟩
   ·obtain ⟨h1,h2⟩:=hps p.l (fun x hx=>hx) _ hu.1 hf;obtain ⟨h5,h6⟩:=hgs p.g (fun x hx=>hx) _ h1 (Nat.lt_of_lt_of_le hf (ZI h2.1));exact ⟨h5,hu.2.trans (h2.trans h6)⟩
theorem Zas (p:KP):Zak (Zd p):=by
 refine (ZaW p 0 ⟨[-1],[],[],[]⟩ ⟨rfl,?_,by simp,by simp,rfl,by simp⟩ (by simp)).1;intro i x hi hx;have:=(List.getElem?_eq_some_iff.1 hx).1;simp at this
 omega
def upW (par:List Int) (a:Int):Int:=par.getD a.toNat (-1)
theorem Zak.parent {w:Zr} (h:Zak w) {a:Int} (h1:1≤a) (h2:a < w.par.length):0≤upW w.par a∧upW w.par a < a:=by
 obtain ⟨n,rfl⟩:∃ n:Nat,a=n:=⟨a.toNat,by omega⟩
 have hn:n < w.par.length:=by omega
 unfold upW;rw [Int.toNat_natCast,List.getD_eq_getElem?_getD,List.getElem?_eq_getElem hn,Option.getD_some];exact h.up n _ (by omega) (List.getElem?_eq_getElem hn)
theorem ZaP (par:List Int) (q:Nat) (a b:Int):ZbI par (q+1) a b=if a=b then a else if a < b then ZbI par q a (upW par b) else ZbI par q (upW par a) b:=by rw [ZbI]; rfl
theorem Zdv {w:Zr} (h:Zak w):∀ (q:Nat) (a b:Int),0≤a→a < w.par.length→0≤b→b < w.par.length→a+b < q→∀ q':Nat,a+b < q'→ZbI w.par q a b=ZbI w.par q' a b∧ZbI w.par q a b=ZbI w.par q' b a:=by
 intro q
 induction q with
 | zero=>intro a b; omega
 | succ q ih =>
   intro a b ha0 ha hb0 hb hq q' hq'
   obtain ⟨p,rfl⟩:∃ p,q'=p+1:=⟨q' - 1,by omega⟩
   rw [ZaP,ZaP,ZaP]
   by_cases he:a=b
   ·rw [if_pos he,if_pos he,if_pos he.symm]; exact ⟨rfl,he⟩
   ·rw [if_neg he,if_neg he,if_neg (Ne.symm he)]
    by_cases hl:a < b
    ·rw [if_pos hl,if_pos hl,if_neg (by omega)];have hp:=h.parent (a:=b) (by omega) hb;exact ih a _ ha0 ha hp.1 (by omega) (by omega) p (by omega)
    ·rw [if_neg hl,if_neg hl,if_pos (by omega)];have hp:=h.parent (a:=a) (by omega) ha;exact ih _ b hp.1 (by omega) hb0 hb (by omega) p (by omega)
inductive Anc (par:List Int) (x:Int):Int→Prop
 | self:Anc par x x
 | up {a:Int}:1≤a→Anc par x (upW par a)→Anc par x a
theorem Anc.le {w:Zr} (h:Zak w) {x a:Int} (k:Anc w.par x a):a < w.par.length→x≤a:=by
 induction k with
 | self=>intro _; exact Int.le_refl _
 | up h1 _ ih=>intro h2; have:=h.parent h1 h2; have:=ih (by omega); omega
theorem Zm6 {w:Zr} (h:Zak w):∀ (q:Nat) (a b:Int),0≤a→a < w.par.length→0≤b→b < w.par.length→a+b < q→0≤ZbI w.par q a b∧Anc w.par (ZbI w.par q a b) a∧Anc w.par (ZbI w.par q a b) b:=by
 intro q
 induction q with
 | zero=>intro a b; omega
 | succ q ih =>
   intro a b ha0 ha hb0 hb hq;rw [ZaP]
   by_cases he:a=b
   ·rw [if_pos he]; subst he; exact ⟨ha0,.self,.self⟩
   ·rw [if_neg he]
    by_cases hl:a < b
    ·rw [if_pos hl];have hp:=h.parent (a:=b) (by omega) hb;obtain ⟨h1,h2,h3⟩:=ih a _ ha0 ha hp.1 (by omega) (by omega);exact ⟨h1,h2,.up (by omega) h3⟩
    ·rw [if_neg hl];have hp:=h.parent (a:=a) (by omega) ha;obtain ⟨h1,h2,h3⟩:=ih _ b hp.1 (by omega) hb0 hb (by omega);exact ⟨h1,.up (by omega) h2,h3⟩
theorem ZhF {w:Zr} (h:Zak w) {m:Int} (hm0:0≤m):∀ (q:Nat) (a:Int),Anc w.par m a→a < w.par.length→m+a < q→ZbI w.par q m a=m:=by
 intro q
 induction q with
 | zero=>intro a ha hl hq; have:=ha.le h hl; omega
 | succ q ih =>
   intro a ha hl hq;rw [ZaP]
   by_cases he:m=a
   ·rw [if_pos he]
   ·rw [if_neg he];have hle:=ha.le h hl;rw [if_pos (by omega)]
    cases ha with
    | self=>exact absurd rfl he
    | up h1 h2 =>
      have hp:=h.parent h1 hl;exact ih _ h2 (by omega) (by omega)
theorem ZdX {w:Zr} (h:Zak w) {a b:Int} (ha:-1≤a) (ha2:a < w.par.length) (hb:0≤b) (hb2:b < w.par.length):Zay w.par (Zay w.par a b) b=Zay w.par a b∧0≤Zay w.par a b∧Zay w.par a b < w.par.length:=by
 unfold Zay
 by_cases h0:a < 0
 ·rw [if_pos h0,if_neg (by omega)];refine ⟨ZhF h hb _ _ .self hb2 (by omega),hb,hb2⟩
 ·rw [if_neg h0];obtain ⟨h1,h2,h3⟩:=Zm6 h (2 * w.par.length+2) a b (by omega) ha2 hb hb2 (by omega);have hle:=h3.le h hb2;rw [if_neg (by omega)];exact ⟨ZhF h h1 _ _ h3 hb2 (by omega),h1,by omega⟩
theorem Zm5 {w:Zr} (h:Zak w) {par:List Int} (hp:w.par <+: par):∀ (q:Nat) (a b:Int),0≤a→a < w.par.length→0≤b→b < w.par.length→a+b < q→ZbI par q a b=ZbI w.par q a b:=by
 have hup:∀ a:Int,0≤a→a < w.par.length→upW par a=upW w.par a:=fun a h0 h1=>by
  obtain ⟨t,rfl⟩:=hp;unfold upW;rw [List.getD_eq_getElem?_getD,List.getD_eq_getElem?_getD,List.getElem?_append_left (by omega)]
 intro q
 induction q with
 | zero=>intro a b; omega
 | succ q ih =>
   intro a b ha0 ha hb0 hb hq;rw [ZaP,ZaP]
   by_cases he:a=b
   ·rw [if_pos he,if_pos he]
   ·rw [if_neg he,if_neg he]
    by_cases hl:a < b
    ·rw [if_pos hl,if_pos hl,hup b hb0 hb];have hp:=h.parent (a:=b) (by omega) hb;exact ih a _ ha0 ha hp.1 (by omega) (by omega)
    ·rw [if_neg hl,if_neg hl,hup a ha0 ha];have hp:=h.parent (a:=a) (by omega) ha;exact ih _ b hp.1 (by omega) hb0 hb (by omega)
def inF (par:List Int) (us:List (KP×Nat)) (v:Int) (a:Int):Int:=us.foldl (fun a u=>if (ZbP u.1).contains v then Zay par a u.2 else a) a
theorem Zmq {w:Zr} (h:Zak w) {f:Nat} (hf:f < w.par.length):∀ (vs:List Int) (m:List Int),(∀ v∈vs,0≤v)→(∀ x∈m,-1≤x∧x < w.par.length) →
  (vs.foldl (fun m v=>m.set v.toNat (Zay w.par (m.getD v.toNat (-1)) f)) m).length=m.length ∧
  (∀ x∈vs.foldl (fun m v=>m.set v.toNat (Zay w.par (m.getD v.toNat (-1)) f)) m,-1≤x∧x < w.par.length) ∧
  ∀ k,k < m.length→(vs.foldl (fun m v=>m.set v.toNat (Zay w.par (m.getD v.toNat (-1)) f)) m).getD k (-1)=if vs.contains (k:Int) then Zay w.par (m.getD k (-1)) f else m.getD k (-1):=by
 intro vs
 induction vs with
 | nil=>intro m _ hm; exact ⟨rfl,hm,fun k _=>by simp⟩
 | cons v vs ih =>
   intro m hv hm;rw [List.foldl_cons]
   obtain ⟨n,rfl⟩:∃ n:Nat,v=n:=⟨v.toNat,by have:=hv v (by simp); omega⟩
   rw [Int.toNat_natCast]
   have hgd:∀ k:Nat,-1≤m.getD k (-1)∧m.getD k (-1) < w.par.length:=fun k=>by
    rw [List.getD_eq_getElem?_getD]
    cases hq:m[k]? with
    | none=>simp; omega
    | some x=>exact hm x (List.mem_of_getElem? hq)
   have hmeet:=fun k:Nat=>ZdX h (hgd k).1 (hgd k).2 (b:=(f:Int)) (by omega) (by omega)
   have hm2:∀ x∈m.set n (Zay w.par (m.getD n (-1)) f),-1≤x∧x < w.par.length:=fun x hx=>by
    rcases List.mem_or_eq_of_mem_set hx with hx | rfl
    ·exact hm x hx
    ·have:=hmeet n; omega
   obtain ⟨h1,h2,h3⟩:=ih (m.set n (Zay w.par (m.getD n (-1)) f)) (fun x hx=>hv x (by simp [hx])) hm2;refine ⟨by rw [h1,List.length_set],h2,fun k hk=>?_⟩;rw [h3 k (by rw [List.length_set]; exact hk)]
   by_cases hkn:k=n
   ·subst hkn
    have hs:(m.set k (Zay w.par (m.getD k (-1)) f)).getD k (-1)=Zay w.par (m.getD k (-1)) f:=by
     rw [List.getD_eq_getElem?_getD,List.getElem?_set_self hk,Option.getD_some]
    rw [hs,(hmeet k).1]
    have hc:((k:Int) :: vs).contains (k:Int)=true:=by simp
    rw [if_pos hc]
    split <;> rfl
   ·have hs:(m.set n (Zay w.par (m.getD n (-1)) f)).getD k (-1)=m.getD k (-1):=by
     rw [List.getD_eq_getElem?_getD,List.getElem?_set_ne (by omega),← List.getD_eq_getElem?_getD]
    rw [hs]
    have hc:((n:Int) :: vs).contains (k:Int)=vs.contains (k:Int):=by
     rw [List.contains_cons]
     have:((k:Int) == (n:Int))=false:=by simp; omega
     rw [this,Bool.false_or]
    rw [hc]
theorem Zmh {w:Zr} (h:Zak w) (hv:∀ u∈w.uses,∀ v∈ZbP u.1,0≤v) (n k:Nat) (hk:k < n):(ZiI w n).length=n∧(ZiI w n).getD k (-1)=inF w.par w.uses (k:Int) (-1):=by
 have key:∀ (us:List (KP×Nat)) (m:List Int),(∀ u∈us,u∈w.uses)→(∀ x∈m,-1≤x∧x < w.par.length)→k < m.length →
   (us.foldl (fun m u=>(ZbP u.1).foldl (fun m v=>m.set v.toNat (Zay w.par (m.getD v.toNat (-1)) u.2)) m) m).length=m.length ∧
   (us.foldl (fun m u=>(ZbP u.1).foldl (fun m v=>m.set v.toNat (Zay w.par (m.getD v.toNat (-1)) u.2)) m) m).getD k (-1)=inF w.par us (k:Int) (m.getD k (-1)):=by
  intro us
  induction us with
  | nil=>intro m _ _ _; exact ⟨rfl,rfl⟩
  | cons u us ih =>
    intro m hs hm hkm;obtain ⟨h1,h2,h3⟩:=Zmq h (h.uses u (hs u (by simp))) (ZbP u.1) m (hv u (hs u (by simp))) hm;rw [List.foldl_cons];obtain ⟨h4,h5⟩:=ih _ (fun x hx=>hs x (by simp [hx])) h2 (by rw [h1]; exact hkm);refine ⟨h4.trans h1,?_⟩;rw [h5,h3 k hkm]
    rfl
 have:=key w.uses (List.replicate n (-1)) (fun u hu=>hu) (fun x hx=>by rw [List.eq_of_mem_replicate hx]; omega) (by simpa using hk);refine ⟨this.1.trans List.length_replicate,?_⟩;have h2:=this.2;rw [List.getD_eq_getElem?_getD (l:=List.replicate n (-1)),List.getElem?_replicate,if_pos hk,Option.getD_some] at h2;exact h2
structure Ord (w:Zr):Prop where
 ord:∀ (i j:Nat) (gi gj:List Nat) (c c':Nat),w.grp[i]? = some gi→w.grp[j]? = some gj→c∈gi→c'∈gj→w.par[c']? = some (c:Int)→j < i
 nodup:w.grp.flatten.Nodup
structure ZdG (f:Nat) (w w':Zr):Prop where
 kid:∀ c∈w'.grp.flatten,c∈w.grp.flatten∨w.par.length≤c
 old:∃ t,w'.grp=w.grp++t∧∀ g∈t,∀ c∈g,∃ q:Nat,w'.par[c]? = some (q:Int)∧(q=f∨w.par.length≤q)
theorem ZdG.refl (f:Nat) (w:Zr):ZdG f w w:=⟨fun c hc=>.inl hc,[],by simp,by simp⟩
theorem ZdG.trans {f:Nat} {a b c:Zr} (hab:Ext a b) (hbc:Ext b c) (h:ZdG f a b) (k:ZdG f b c):ZdG f a c:=by
 obtain ⟨t,ht,ht2⟩:=h.old;obtain ⟨s,hs,hs2⟩:=k.old;have hl:=ZI hab.1;refine ⟨fun x hx=>?_,t++s,by rw [hs,ht,List.append_assoc],fun g hg x hx=>?_⟩
 ·rcases k.kid x hx with h1 | h1
  ·rcases h.kid x h1 with h2 | h2
   ·exact .inl h2
   ·exact .inr h2
  ·exact .inr (by omega)
 ·rcases List.mem_append.1 hg with hg | hg
  ·obtain ⟨q,h1,h2⟩:=ht2 g hg x hx;exact ⟨q,Zb5 hbc.1 h1,h2⟩
  ·obtain ⟨q,h1,h2⟩:=hs2 g hg x hx;exact ⟨q,h1,h2.imp id (by omega)⟩
theorem Zja {l:List (List Nat)} {c:Nat}:c∈l.flatten ↔ ∃ (i:Nat) (g:List Nat),l[i]? = some g∧c∈g:=by
 rw [List.mem_flatten]
 constructor
 ·rintro ⟨g,hg,hc⟩;obtain ⟨i,hi⟩:=List.mem_iff_getElem?.1 hg;exact ⟨i,g,hi,hc⟩
 ·rintro ⟨i,g,hi,hc⟩;exact ⟨g,List.mem_of_getElem? hi,hc⟩
theorem Zll {w:Zr} (h:Zak w) {c:Nat} (hc:c∈w.grp.flatten):c < w.par.length:=by
 obtain ⟨g,hg,hc2⟩:=List.mem_flatten.1 hc;obtain ⟨f,-,h2⟩:=h.grp g hg;exact (List.getElem?_eq_some_iff.1 (h2 c hc2)).1
theorem Ord.group {w:Zr} (ht:Zak w) (h:Ord w) {g:List Nat} {f:Nat} (hg:∀ c∈g,w.par[c]? = some (f:Int)) (hn:g.Nodup) (hd:∀ c∈g,c ∉ w.grp.flatten) (hf:f ∉ w.grp.flatten) (hfg:f ∉ g) (o:List Nat):Ord { w with grp:=w.grp++[g],out:=o }:=by
 refine ⟨?_,?_⟩
 ·intro i j gi gj c c' hi hj hc hc' hp
  simp only at hi hj hp
  by_cases hil:i < w.grp.length
  ·rw [List.getElem?_append_left hil] at hi
   by_cases hjl:j < w.grp.length
   ·rw [List.getElem?_append_left hjl] at hj;exact h.ord i j gi gj c c' hi hj hc hc' hp
   ·exfalso
    have hgj:gj=g:=by
     rw [List.getElem?_append_right (by omega)] at hj;have:=List.mem_of_getElem? hj
     simpa using this
    subst hgj;have h1:=hg c' hc';rw [h1] at hp
    have hcf:c=f:=by have:=Option.some.inj hp; omega
    exact hf (Zja.2 ⟨i,gi,hi,hcf ▸ hc⟩)
  ·have hi1:=(List.getElem?_eq_some_iff.1 hi).1;have hj1:=(List.getElem?_eq_some_iff.1 hj).1;simp only [List.length_append,List.length_cons,List.length_nil] at hi1 hj1
   by_cases hjl:j < w.grp.length
   ·omega
   ·exfalso
    have hgi:gi=g:=by
     rw [List.getElem?_append_right (by omega)] at hi;have:=List.mem_of_getElem? hi
     simpa using this
    have hgj:gj=g:=by
     rw [List.getElem?_append_right (by omega)] at hj;have:=List.mem_of_getElem? hj
     simpa using this
    subst hgi;rw [hgj] at hc';have h1:=hg c' hc';rw [h1] at hp
    have hcf:c=f:=by have:=Option.some.inj hp; omega
    exact hfg (hcf ▸ hc)
 ·simp only [List.flatten_append,List.flatten_cons,List.flatten_nil,List.append_nil];rw [List.nodup_append];exact ⟨h.nodup,hn,fun a ha b hb hab=>hd b hb (hab ▸ ha)⟩
theorem Ord.more {w:Zr} (ht:Zak w) (h:Ord w) {par:List Int} (hp:w.par <+: par) (us:List (KP×Nat)):Ord ⟨par,us,w.grp,w.out⟩ :=
 ⟨fun i j gi gj c c' hi hj hc hc' hpc=>by
  refine h.ord i j gi gj c c' hi hj hc hc' ?_;have hlt:=Zll ht (Zja.2 ⟨j,gj,hj,hc'⟩);have h1:w.par[c']? = some w.par[c']:=List.getElem?_eq_getElem hlt;have h2:=Zb5 hp h1
  exact h1.trans (h2.symm.trans hpc),h.nodup⟩
theorem Zme (p:KP):∀ (f:Nat) (w:Zr),Zak w→Ord w→f < w.par.length→f ∉ w.grp.flatten→Ord (Z7 f p w)∧ZdG f w (Z7 f p w):=by
 induction p using KP.ind with
 | h p ihg ihl =>
   intro f w ht ho hf hfg;have hu:Zak { w with uses:=w.uses++[(p,f)] }:=ht.use hf;have hou:Ord { w with uses:=w.uses++[(p,f)] }:=ho.more ht (List.prefix_refl _) _
   have hau:ZdG f w { w with uses:=w.uses++[(p,f)] }:=⟨fun c hc=>.inl hc,[],by simp,by simp⟩
   have heu:Ext w { w with uses:=w.uses++[(p,f)] }:=⟨List.prefix_refl _,List.prefix_append _ _,List.prefix_refl _⟩
   have hstill:∀ {a b:Zr},Ext w a→ZdG f w a→f ∉ a.grp.flatten:=fun {a b} _ had hm=>by
    rcases had.kid f hm with h1 | h1
    ·exact hfg h1
    ·omega
   have hgs:∀ (gs:List KG),(∀ g∈gs,g∈p.g)→∀ a,Zak a→Ord a→Ext w a→ZdG f w a→Ord (ZF f gs a)∧ZdG f w (ZF f gs a):=by
    intro gs
    induction gs with
    | nil=>intro _ a _ h2 _ h4; rw [ZF]; exact ⟨h2,h4⟩
    | cons g gs ihgs =>
      intro hsub a h1 h2 h3 h4;rw [ZF,Zcz]
      match hb:g.body with
      | []=>exact ihgs (fun x hx=>hsub x (by simp [hx])) a h1 h2 h3 h4
      | q :: r =>
        have hfa:=Nat.lt_of_lt_of_le hf (ZI h3.1);obtain ⟨h5,h6⟩:=ZaW q f a h1 hfa;obtain ⟨h7,h8⟩:=ihg g (hsub g (by simp)) q (by rw [hb]; simp) f a h1 h2 hfa (hstill (b:=a) h3 h4);exact ihgs (fun x hx=>hsub x (by simp [hx])) _ h5 h7 (h3.trans h6) (h4.trans h3 h6 h8)
   have hps:∀ (l:List KP),(∀ x∈l,x∈p.l)→∀ a,Zak a→Ord a→Ext w a→ZdG f w a→Zak (ZE f l a)∧Ext w (ZE f l a)∧Ord (ZE f l a)∧ZdG f w (ZE f l a):=by
    intro l
    induction l with
    | nil=>intro _ a h1 h2 h3 h4; rw [ZE]; exact ⟨h1,h3,h2,h4⟩
    | cons q l ihq =>
      intro hsub a h1 h2 h3 h4;rw [ZE];have hfa:=Nat.lt_of_lt_of_le hf (ZI h3.1);obtain ⟨h5,h6⟩:=ZaW q f a h1 hfa;obtain ⟨h7,h8⟩:=ihl q (hsub q (by simp)) f a h1 h2 hfa (hstill (b:=a) h3 h4);exact ihq (fun x hx=>hsub x (by simp [hx])) _ h5 h7 (h3.trans h6) (h4.trans h3 h6 h8)
   have hbr:∀ (l:List KP),(∀ x∈l,x∈p.l)→∀ a ch,Zak a→Ord a→Ext w a→ZdG f w a→(∀ c∈ch,a.par[c]? = some (f:Int)∧w.par.length≤c∧c ∉ a.grp.flatten)→ch.Nodup →
     Zak (Zj f l a ch).1∧Ord (Zj f l a ch).1∧Ext w (Zj f l a ch).1∧ZdG f w (Zj f l a ch).1∧(∀ c∈(Zj f l a ch).2,(Zj f l a ch).1.par[c]? = some (f:Int)∧w.par.length≤c∧c ∉ (Zj f l a ch).1.grp.flatten)∧(Zj f l a ch).2.Nodup:=by
    intro l
    induction l with
    | nil=>intro _ a ch h1 h2 h3 h4 h5 h6; rw [Zj]; exact ⟨h1,h2,h3,h4,h5,h6⟩
    | cons q l ihq =>
      intro hsub a ch h1 h2 h3 h4 h5 h6;rw [Zj];have hfa:=Nat.lt_of_lt_of_le hf (ZI h3.1);have hwl:=ZI h3.1;have k1:=h1.frame hfa
      have k2:Ext a { a with par:=a.par++[(f:Int)] }:=⟨List.prefix_append _ _,List.prefix_refl _,List.prefix_refl _⟩
      have k3:Ord { a with par:=a.par++[(f:Int)] }:=h2.more h1 (List.prefix_append _ _) _
      have kn:a.par.length ∉ a.grp.flatten:=fun hm=>by have:=Zll h1 hm; omega
      have kl:a.par.length < ({ a with par:=a.par++[(f:Int)] }:Zr).par.length:=by simp
      obtain ⟨k4,k5⟩:=ZaW q a.par.length { a with par:=a.par++[(f:Int)] } k1 kl;obtain ⟨k6,k7⟩:=ihl q (hsub q (by simp)) a.par.length { a with par:=a.par++[(f:Int)] } k1 k3 kl kn;have k8:=k2.trans k5
      have k9:ZdG f w (Z7 a.par.length q { a with par:=a.par++[(f:Int)] }):=by
       obtain ⟨t,ht1,ht2⟩:=h4.old;obtain ⟨s,hs1,hs2⟩:=k7.old;refine ⟨fun c hc=>?_,t++s,by rw [hs1]; show a.grp++s=_; rw [ht1,List.append_assoc],fun g hg c hc=>?_⟩
       ·rcases k7.kid c hc with q1 | q1
        ·exact h4.kid c q1
        ·right
         simp only [List.length_append,List.length_cons,List.length_nil] at q1
         omega
       ·rcases List.mem_append.1 hg with hg | hg
        ·obtain ⟨y,y1,y2⟩:=ht2 g hg c hc;exact ⟨y,Zb5 k8.1 y1,y2⟩
        ·obtain ⟨y,y1,y2⟩:=hs2 g hg c hc;refine ⟨y,y1,.inr ?_⟩;simp only [List.length_append,List.length_cons,List.length_nil] at y2
         omega
      refine ihq (fun x hx=>hsub x (by simp [hx])) _ (ch++[a.par.length]) k4 k6 (h3.trans k8) k9 ?_ ?_
      ·intro c hc
       have hnot:∀ c,c≤a.par.length→c ∉ a.grp.flatten→c ∉ (Z7 a.par.length q { a with par:=a.par++[(f:Int)] }).grp.flatten:=fun c hcl hcn hm=>by
        rcases k7.kid c hm with q1 | q1
        ·exact hcn q1
        ·simp only [List.length_append,List.length_cons,List.length_nil] at q1
         omega
       rcases List.mem_append.1 hc with hc | hc
       ·obtain ⟨y1,y2,y3⟩:=h5 c hc;exact ⟨Zb5 k8.1 y1,y2,hnot c (Nat.le_of_lt (List.getElem?_eq_some_iff.1 y1).1) y3⟩
       ·simp at hc;subst hc;exact ⟨Zb5 k5.1 (by simp),hwl,hnot _ (Nat.le_refl _) kn⟩
      ·rw [List.nodup_append];refine ⟨h6,by simp,fun x hx y hy hxy=>?_⟩;simp at hy;subst hy;subst hxy;have:=(List.getElem?_eq_some_iff.1 (h5 _ hx).1).1
       omega
   rw [Zd4]
   split
   ·obtain ⟨h1,h2,h3,h4,h5,h6⟩:=hbr p.l (fun x hx=>hx) _ [] hu hou heu hau (by simp) (by simp);have hf2:=Nat.lt_of_lt_of_le hf (ZI h3.1);have hfn:=hstill (b:=w) h3 h4
    have hfl:f ∉ (Zj f p.l { w with uses:=w.uses++[(p,f)] } []).2:=fun hm=>by
     have:=(h5 f hm).2.1
     omega
    have k1:=h1.group hf2 (fun c hc=>(h5 c hc).1);have k2:=h2.group h1 (fun c hc=>(h5 c hc).1) h6 (fun c hc=>(h5 c hc).2.2) hfn hfl ((Zj f p.l { w with uses:=w.uses++[(p,f)] } []).1.out++[f])
    have k3:Ext w { (Zj f p.l { w with uses:=w.uses++[(p,f)] } []).1 with grp:=(Zj f p.l { w with uses:=w.uses++[(p,f)] } []).1.grp++[(Zj f p.l { w with uses:=w.uses++[(p,f)] } []).2],out:=(Zj f p.l { w with uses:=w.uses++[(p,f)] } []).1.out++[f] } :=
     h3.trans ⟨List.prefix_refl _,List.prefix_refl _,List.prefix_append _ _⟩
    refine hgs p.g (fun x hx=>hx) _ k1 k2 k3 ?_;obtain ⟨t,ht1,ht2⟩:=h4.old;refine ⟨fun c hc=>?_,t++[(Zj f p.l { w with uses:=w.uses++[(p,f)] } []).2],by show _++_=_; rw [ht1,List.append_assoc],fun g hg c hc=>?_⟩
    ·simp only [List.flatten_append,List.flatten_cons,List.flatten_nil,List.append_nil] at hc
     rcases List.mem_append.1 hc with hc | hc
     ·exact h4.kid c hc
     ·exact .inr (h5 c hc).2.1
    ·rcases List.mem_append.1 hg with hg | hg
     ·exact ht2 g hg c hc
     ·simp at hg;subst hg;exact ⟨f,(h5 c hc).1,.inl rfl⟩
   ·obtain ⟨h1,h2,h3,h4⟩:=hps p.l (fun x hx=>hx) _ hu hou heu hau;exact hgs p.g (fun x hx=>hx) _ h1 h3 h2 h4
theorem ZiQ (p:KP):Ord (Zd p):=by
 refine (Zme p 0 ⟨[-1],[],[],[]⟩ ⟨rfl,?_,by simp,by simp,rfl,by simp⟩ ⟨by simp,by simp⟩ (by simp) (by simp)).1;intro i x hi hx;have:=(List.getElem?_eq_some_iff.1 hx).1;simp at this
 omega
inductive Ev where
 | va (v:Int)
 | ch (c:Int)
 | ex (e:KE)
def evI (e:KE):List Ev:=(ZaQ e).map .va
def evO (e:KE):List Ev:=.ex e :: evI e
def ZbN (p:KPl):List Ev:=.va p.v :: p.l.flatMap evO
def evG (g:KG):List Ev:=evO g.cond++(if g.kind=3 then .ch g.c :: ZbN g.dst else if g.kind=4 then evO g.time else [])
def evP (p:KP):List Ev:=(if p.kind=3 then [.va p.v] else if p.kind=5∨p.kind=6 then [.ch p.c] else [])++p.tos.flatMap ZbN++p.e.flatMap evO++p.g.flatMap evG
def ZeS (l:List Ev):List Int:=l.filterMap fun | .va v=>some v | _=>none
def ZeN (l:List Ev):List Int:=l.filterMap fun | .ch c=>some c | _=>none
def ZdE (l:List Ev):List KE:=l.filterMap fun | .ex e=>some e | _=>none
theorem ZaX (a b:List Ev):ZeS (a++b)=ZeS a++ZeS b:=by simp [ZeS]
theorem ZaY (a b:List Ev):ZeN (a++b)=ZeN a++ZeN b:=by simp [ZeN]
theorem ZaK (a b:List Ev):ZdE (a++b)=ZdE a++ZdE b:=by simp [ZdE]
theorem Zc0 {α:Type} (f:α→List Ev):∀ l:List α,ZeS (l.flatMap f)=l.flatMap fun x=>ZeS (f x)
 | []=>rfl
 | x :: l=>by rw [List.flatMap_cons,ZaX,Zc0 f l,List.flatMap_cons]
theorem Zdj {α:Type} (f:α→List Ev):∀ l:List α,ZeN (l.flatMap f)=l.flatMap fun x=>ZeN (f x)
 | []=>rfl
 | x :: l=>by rw [List.flatMap_cons,ZaY,Zdj f l,List.flatMap_cons]
theorem Zdg {α:Type} (f:α→List Ev):∀ l:List α,ZdE (l.flatMap f)=l.flatMap fun x=>ZdE (f x)
 | []=>rfl
 | x :: l=>by rw [List.flatMap_cons,ZaK,Zdg f l,List.flatMap_cons]
theorem Zqa (e:KE):ZeS (evI e)=ZaQ e:=by
 unfold evI ZeS;rw [List.filterMap_map];exact List.filterMap_some
theorem Zqc (e:KE):ZeN (evI e)=[]:=by
 unfold evI ZeN;rw [List.filterMap_map]
 simp [List.filterMap_eq_nil_iff]
theorem Zqb (e:KE):ZdE (evI e)=[]:=by
 unfold evI ZdE;rw [List.filterMap_map]
 simp [List.filterMap_eq_nil_iff]
theorem Zoa (e:Int) (l:List Ev):ZeS (.ch e :: l)=ZeS l:=rfl
theorem Zn9 (e:Int) (l:List Ev):ZeS (.va e :: l)=e :: ZeS l:=rfl
theorem Zo5 (e:Int) (l:List Ev):ZeN (.ch e :: l)=e :: ZeN l:=rfl
theorem Zo4 (e:Int) (l:List Ev):ZeN (.va e :: l)=ZeN l:=rfl
theorem Zo0 (e:KE) (l:List Ev):ZdE (.ex e :: l)=e :: ZdE l:=rfl
theorem Zo1 (e:Int) (l:List Ev):ZdE (.ch e :: l)=ZdE l:=rfl
theorem ZoZ (e:Int) (l:List Ev):ZdE (.va e :: l)=ZdE l:=rfl
theorem Zjf (e:KE):ZeS (evO e)=ZaQ e:=Zqa e
theorem Zjh (e:KE):ZeN (evO e)=[]:=Zqc e
theorem Zjg (e:KE):ZdE (evO e)=[e]:=by unfold evO; rw [Zo0,Zqb]
theorem ZlL (p:KPl):ZeS (ZbN p)=ZcZ p:=by
 unfold ZbN ZcZ;rw [Zn9,Zc0,ZbV];simp only [Zjf]
theorem ZlN (p:KPl):ZeN (ZbN p)=[]:=by
 unfold ZbN;rw [Zo4,Zdj]
 simp [Zjh]
theorem ZlM (p:KPl):ZdE (ZbN p)=p.l:=by
 unfold ZbN;rw [ZoZ,Zdg];simp only [Zjg,List.flatMap_singleton']
theorem Zqd (g:KG):ZeS (evG g)=Zgb g:=by
 unfold evG Zgb;rw [ZaX,Zjf]
 by_cases h3:g.kind=3
 ·rw [if_pos h3,if_pos h3,Zoa,ZlL]
 ·rw [if_neg h3,if_neg h3]
  by_cases h4:g.kind=4
  ·rw [if_pos h4,if_pos h4,Zjf]
  ·rw [if_neg h4,if_neg h4]; rfl
theorem Zqf (g:KG):ZeN (evG g)=if g.kind=3 then [g.c] else []:=by
 unfold evG;rw [ZaY,Zjh,List.nil_append]
 by_cases h3:g.kind=3
 ·rw [if_pos h3,if_pos h3,Zo5,ZlN]
 ·rw [if_neg h3,if_neg h3]
  by_cases h4:g.kind=4
  ·rw [if_pos h4,Zjh]
  ·rw [if_neg h4]; rfl
theorem Zqe (g:KG):ZdE (evG g)=ZcO g:=by
 unfold evG ZcO;rw [ZaK,Zjg]
 by_cases h3:g.kind=3
 ·rw [if_pos h3,if_pos h3,Zo1,ZlM]
 ·rw [if_neg h3,if_neg h3]
  by_cases h4:g.kind=4
  ·rw [if_pos h4,if_pos h4,Zjg]
  ·rw [if_neg h4,if_neg h4]; rfl
theorem ZnZ (p:KP):ZeS (evP p)=ZbP p:=by
 unfold evP ZbP;rw [ZaX,ZaX,ZaX,Zc0,Zc0,Zc0,ZbV];simp only [ZlL,Zjf,Zqd]
 congr 3
 by_cases h3:p.kind=3
 ·rw [if_pos h3,if_pos h3]; rfl
 ·rw [if_neg h3,if_neg h3]
  by_cases h4:p.kind=5∨p.kind=6
  ·rw [if_pos h4]; rfl
  ·rw [if_neg h4]; rfl
theorem Zje (p:KP):ZeN (evP p)=Zau p:=by
 unfold evP Zau;rw [ZaY,ZaY,ZaY,Zdj,Zdj,Zdj];simp only [ZlN,Zjh,Zqf]
 have h0:∀ {α:Type} (l:List α),l.flatMap (fun _=>([]:List Int))=[]:=fun l=>by simp
 rw [h0,h0,List.append_nil,List.append_nil]
 congr 1
 by_cases h3:p.kind=3
 ·rw [if_pos h3,if_neg (by omega)]; rfl
 ·rw [if_neg h3]
  by_cases h4:p.kind=5∨p.kind=6
  ·rw [if_pos h4,if_pos h4]; rfl
  ·rw [if_neg h4,if_neg h4]; rfl
theorem ZlO (p:KP):ZdE (evP p)=ZbM p:=by
 unfold evP ZbM;rw [ZaK,ZaK,ZaK,Zdg,Zdg,Zdg];simp only [ZlM,Zjg,Zqe,List.flatMap_singleton']
 have h0:ZdE (if p.kind=3 then [Ev.va p.v] else if p.kind=5∨p.kind=6 then [Ev.ch p.c] else [])=[]:=by
  by_cases h3:p.kind=3
  ·rw [if_pos h3]; rfl
  ·rw [if_neg h3]
   by_cases h4:p.kind=5∨p.kind=6
   ·rw [if_pos h4]; rfl
   ·rw [if_neg h4]; rfl
 rw [h0,List.nil_append]
def Zaz (g:KG):List KE:=[g.cond]++g.dst.l++(if g.kind=4 then [g.time] else [])
def ZL (p:KP):List KE:=p.e++p.tos.flatMap (fun t=>t.l)++p.g.flatMap Zaz
def ZiJ (p:KP) (v:Int):Bool:=(decide (p.kind=3) && decide (p.v=v)) || p.tos.any (fun t=>decide (t.v=v)) || p.g.any (fun g=>decide (g.kind=3) && decide (g.dst.v=v)) || (ZL p).any fun e=>(ZaQ e).contains v
def ZiK (p:KP) (c:Int):Bool:=((decide (p.kind=5) || decide (p.kind=6)) && decide (p.c=c)) || p.g.any fun g=>decide (g.kind=3) && decide (g.c=c)
def Ze2 (p:KP):Prop:=∀ g∈p.g,g.kind≠3→g.dst.l=[]
theorem Zff {α:Type} {f g:α→Bool}:∀ {l:List α},(∀ x∈l,f x=g x)→l.any f=l.any g
 | [],_=>rfl
 | x :: l,h=>by rw [List.any_cons,List.any_cons,h x (by simp),Zff fun y hy=>h y (by simp [hy])]
theorem Zdp (l:List KE) (v:Int):(ZbK l).contains v=l.any fun e=>(ZaQ e).contains v:=by
 rw [ZbV]
 induction l with
 | nil=>rfl
 | cons x l ih=>rw [List.flatMap_cons,List.contains_append,List.any_cons,ih]
theorem ZcI {α:Type} (f:α→List Int) (l:List α) (v:Int):(l.flatMap f).contains v=l.any fun x=>(f x).contains v:=by
 induction l with
 | nil=>rfl
 | cons x l ih=>rw [List.flatMap_cons,List.contains_append,List.any_cons,ih]
theorem Zjp {α β:Type} (f:α→List β) (q:β→Bool) (l:List α):(l.flatMap f).any q=l.any fun x=>(f x).any q:=by
 induction l with
 | nil=>rfl
 | cons x l ih=>rw [List.flatMap_cons,List.any_append,List.any_cons,ih]
theorem Zcl (x v:Int):[x].contains v=decide (x=v):=by
 rw [List.contains_cons]
 by_cases h:x=v
 ·subst h; simp
 ·simp [h,Ne.symm h]
theorem Zl4 {α:Type} (a b:α→Bool):∀ l:List α,(l.any fun x=>a x || b x)=(l.any a || l.any b)
 | []=>rfl
 | x :: l=>by
   rw [List.any_cons,List.any_cons,List.any_cons,Zl4 a b l]
   cases a x <;> cases b x <;> simp
theorem Zkq {p:KP} (h:Ze2 p) (v:Int):ZiJ p v=(ZbP p).contains v:=by
 have hg:p.g.any (fun g=>(Zgb g).contains v)=(p.g.any (fun g=>decide (g.kind=3) && decide (g.dst.v=v)) || p.g.any fun g=>(Zaz g).any fun e=>(ZaQ e).contains v):=by
  rw [← Zl4];refine Zff ?_;intro g hgm;unfold Zgb Zaz;rw [List.contains_append,List.any_append,List.any_append,List.any_cons,List.any_nil,Bool.or_false]
  by_cases h3:g.kind=3
  ·rw [if_pos h3,if_neg (by omega)];unfold ZcZ;rw [List.contains_cons,Zdp]
   have:(v == g.dst.v)=decide (g.dst.v=v):=by
    by_cases hx:g.dst.v=v
    ·subst hx; simp
    ·simp [hx,Ne.symm hx]
   rw [this];simp only [h3,decide_true,Bool.true_and,List.any_nil,Bool.or_false]
   cases (ZaQ g.cond).contains v <;> cases decide (g.dst.v=v) <;> simp
  ·rw [if_neg h3,h g hgm h3]
   by_cases h4:g.kind=4
   ·rw [if_pos h4,if_pos h4]; simp [h3]
   ·rw [if_neg h4,if_neg h4]; simp [h3]
 have ht:p.tos.any (fun t=>(ZcZ t).contains v)=(p.tos.any (fun t=>decide (t.v=v)) || p.tos.any fun t=>t.l.any fun e=>(ZaQ e).contains v):=by
  rw [← Zl4];refine Zff ?_;intro t _;unfold ZcZ;rw [List.contains_cons,Zdp]
  congr 1
  by_cases hx:t.v=v
  ·subst hx; simp
  ·simp [hx,Ne.symm hx]
 unfold ZiJ ZbP ZL;rw [List.contains_append,List.contains_append,List.contains_append,ZcI,ZcI,Zdp,List.any_append,List.any_append,Zjp,Zjp,hg,ht]
 have h0:(if p.kind=3 then [p.v] else []).contains v=(decide (p.kind=3) && decide (p.v=v)):=by
  by_cases h3:p.kind=3
  ·rw [if_pos h3,Zcl]; simp [h3]
  ·rw [if_neg h3]; simp [h3]
 rw [h0];generalize (decide (p.kind=3) && decide (p.v=v))=a;generalize (p.tos.any fun t=>decide (t.v=v))=b;generalize (p.g.any fun g=>decide (g.kind=3) && decide (g.dst.v=v))=c;generalize (p.e.any fun e=>(ZaQ e).contains v)=d;generalize (p.tos.any fun x=>x.l.any fun e=>(ZaQ e).contains v)=e;generalize (p.g.any fun x=>(Zaz x).any fun e=>(ZaQ e).contains v)=f
 cases a <;> cases b <;> cases c <;> cases d <;> cases e <;> cases f <;> rfl
theorem Zhi (p:KP) (c:Int):ZiK p c=(Zau p).contains c:=by
 unfold ZiK Zau;rw [List.contains_append,ZcI]
 congr 1
 ·by_cases h3:p.kind=5∨p.kind=6
  ·rw [if_pos h3,Zcl]
   rcases h3 with h3 | h3 <;> simp [h3]
  ·rw [if_neg h3];have h5:¬ p.kind=5:=fun h=>h3 (.inl h);have h6:¬ p.kind=6:=fun h=>h3 (.inr h)
   simp [h5,h6]
 ·refine Zff ?_;intro g _
  by_cases h3:g.kind=3
  ·rw [if_pos h3,Zcl]; simp [h3]
  ·rw [if_neg h3]; simp [h3]
def Zc2 (tm:KE→Nat) (l:List KE):Nat:=(l.map fun e=>1+tm e).sum
theorem Zah (tm:KE→Nat) (a b:List KE):Zc2 tm (a++b)=Zc2 tm a+Zc2 tm b:=by simp [Zc2]
theorem Zfo {α:Type} (tm:KE→Nat) (f:α→List KE):∀ l:List α,Zc2 tm (l.flatMap f)=(l.map fun x=>Zc2 tm (f x)).sum
 | []=>rfl
 | x :: l=>by rw [List.flatMap_cons,Zah,Zfo tm f l,List.map_cons,List.sum_cons]
theorem Zp6 (tm:KE→Nat):∀ (l:List KE) (n:Nat),l.foldl (fun n e=>n+1+tm e) n=n+Zc2 tm l
 | [],n=>rfl
 | e :: l,n=>by
   rw [List.foldl_cons,Zp6 tm l];simp only [Zc2,List.map_cons,List.sum_cons]
   omega
theorem Zey (tm:KE→Nat) (p:KP):Zal tm p=1+Zc2 tm (ZbM p):=Zp6 tm _ _
theorem ZgL (tm:KE→Nat) {p:KP} (h:Ze2 p):Zc2 tm (ZL p)=Zc2 tm (ZbM p):=by
 unfold ZL ZbM;rw [Zah,Zah,Zah,Zah]
 have hg:Zc2 tm (p.g.flatMap Zaz)=Zc2 tm (p.g.flatMap ZcO):=by
  rw [Zfo,Zfo]
  congr 1
  refine List.map_congr_left ?_;intro g hgm;unfold Zaz ZcO;rw [Zah,Zah,Zah]
  by_cases h3:g.kind=3
  ·rw [if_pos h3,if_neg (by omega)]; rfl
  ·rw [if_neg h3,h g hgm h3]; simp [Zc2]
 rw [hg]
 omega
def frA (fr:List FrL) (k:Nat):FrL:=fr.getD k default
def Zqm (fr:List FrL) (P:Nat):List Nat→Int→Prop
 | [],_=>True
 | x :: l,d=>(frA fr x).down=d+(frA fr x).above∧(frA fr x).down+(frA fr x).below≤(frA fr P).below∧Zqm fr P l ((frA fr x).down+(frA fr x).below)
structure SameG (P:Nat) (g:List Nat) (fr fr':List FrL):Prop where
 len:fr'.length=fr.length
 par:∀ k,(frA fr' k).parent=(frA fr k).parent
 abv:∀ k,(frA fr' k).above=(frA fr k).above
 tmp:∀ k,(frA fr' k).temp=(frA fr k).temp
 dwn:∀ k,k ∉ g→(frA fr' k).down=(frA fr k).down
 blw:∀ k,k≠P→(frA fr' k).below=(frA fr k).below
 grow:∀ k,(frA fr k).below≤(frA fr' k).below
def tb {α:Type} (n:Nat) (f:Nat→α):List α:=(List.range n).map f
theorem Zch {α:Type} (n:Nat) (f:Nat→α):(tb n f).length=n:=by simp [tb]
theorem Zc1 {α:Type} {n:Nat} (f:Nat→α) {k:Nat} (h:k < n):(tb n f)[k]? = some (f k):=by simp [tb,h]
theorem Zh7 {α:Type} {n:Nat} (f:Nat→α) {k:Nat} (h:k < n) (d:α):(tb n f).getD k d=f k:=by rw [List.getD_eq_getElem?_getD,Zc1 f h,Option.getD_some]
theorem Zgq {α:Type} {n:Nat} {l:List α} {f:Nat→α} (hl:l.length=n) (h:∀ k,k < n→l[k]? = some (f k)):l=tb n f:=by
 refine List.ext_getElem? fun k=>?_
 by_cases hk:k < n
 ·rw [h k hk,Zc1 f hk]
 ·rw [List.getElem?_eq_none (by omega),List.getElem?_eq_none (by rw [Zch]; omega)]
theorem ZK {α:Type} {n:Nat} {f g:Nat→α} (h:∀ k,k < n→f k=g k):tb n f=tb n g:=Zgq (Zch n f) fun k hk=>by rw [Zc1 f hk,h k hk]
theorem Zd7 {α:Type} {n:Nat} (f:Nat→α) (k:Nat) (x:α):(tb n f).set k x=tb n fun i=>if i=k then x else f i:=by
 refine Zgq (by rw [List.length_set,Zch]) fun i hi=>?_
 by_cases h:i=k
 ·subst h; rw [if_pos rfl,List.getElem?_set_self (by rw [Zch]; exact hi)]
 ·rw [if_neg h,List.getElem?_set_ne (by omega),Zc1 f hi]
theorem Zhk {α:Type} (n:Nat) (x:α):List.replicate n x=tb n fun _=>x:=Zgq List.length_replicate fun k hk=>by rw [List.getElem?_replicate,if_pos hk]
theorem Zku {α:Type} (n:Nat) (f:Nat→α):tb (n+1) f=tb n f++[f n]:=by simp [tb,List.range_succ]
def ZcS (par:List Int) (f:Int) (m:List Int) (v:Int):List Int:=m.set v.toNat (Zay par (m.getD v.toNat (-1)) f)
def Zhh (par:List Int) (us:List (KP×Nat)) (m:List Int):List Int:=us.foldl (fun m u=>(ZbP u.1).foldl (ZcS par u.2) m) m
theorem ZiH (w:Zr) (n:Nat):ZiI w n=Zhh w.par w.uses (List.replicate n (-1)):=rfl
theorem Zfp (par:List Int) (f:Int):∀ (vs m:List Int),(vs.foldl (ZcS par f) m).length=m.length
 | [],m=>rfl
 | v :: vs,m=>by rw [List.foldl_cons,Zfp par f vs]; exact List.length_set
theorem Ze9 (par:List Int):∀ (us:List (KP×Nat)) (m:List Int),(Zhh par us m).length=m.length
 | [],m=>rfl
 | u :: us,m=>by
   show (Zhh par us _).length=_
   rw [Ze9 par us,Zfp]
theorem Zkm (par:List Int) (us:List (KP×Nat)) (u:KP×Nat) (m:List Int):Zhh par (us++[u]) m=(ZbP u.1).foldl (ZcS par u.2) (Zhh par us m):=by simp [Zhh]
def Zcd (outs:List Bool) (m:List Int) (c:Int):List Int:=if outs.getD c.toNat false then m else m.set c.toNat 0
def Zcv (outs:List Bool) (us:List (KP×Nat)) (m:List Int):List Int:=us.foldl (fun m u=>(Zau u.1).foldl (Zcd outs) m) m
theorem Zj9 (outs:List Bool) (us:List (KP×Nat)) (u:KP×Nat) (m:List Int):Zcv outs (us++[u]) m=(Zau u.1).foldl (Zcd outs) (Zcv outs us m):=by simp [Zcv]
theorem ZiP (outs:List Bool):∀ (cs m:List Int),(∀ c∈cs,0≤c)→(cs.foldl (Zcd outs) m).length=m.length∧∀ k,k < m.length→(cs.foldl (Zcd outs) m)[k]? = if cs.contains (k:Int) && !outs.getD k false then some 0 else m[k]?
 | [],m,_=>⟨rfl,fun k _=>by simp⟩
 | c :: cs,m,h=>by
   obtain ⟨n,rfl⟩:∃ n:Nat,c=n:=⟨c.toNat,by have:=h c (by simp); omega⟩
   have hl:(Zcd outs m (n:Int)).length=m.length:=by unfold Zcd; split; rfl; exact List.length_set
   obtain ⟨h1,h2⟩:=ZiP outs cs (Zcd outs m n) (fun x hx=>h x (by simp [hx]));refine ⟨by rw [List.foldl_cons,h1,hl],fun k hk=>?_⟩;rw [List.foldl_cons,h2 k (by omega),List.contains_cons]
   by_cases hkn:k=n
   ·subst hkn;rw [show ((k:Int) == (k:Int))=true by simp,Bool.true_or,Bool.true_and];unfold Zcd;rw [Int.toNat_natCast]
    by_cases ho:outs.getD k false=true
    ·rw [ho,if_pos rfl]; simp
    ·rw [Bool.not_eq_true] at ho;rw [ho]
     cases cs.contains (k:Int) <;> simp [List.getElem?_set_self hk]
   ·have hne:((k:Int) == (n:Int))=false:=by simp; omega
    rw [hne,Bool.false_or]
    have hs:(Zcd outs m (n:Int))[k]? = m[k]?:=by
     unfold Zcd;rw [Int.toNat_natCast]
     split
     ·rfl
     ·rw [List.getElem?_set_ne (by omega)]
    rw [hs]
theorem Zjj (outs:List Bool):∀ (us:List (KP×Nat)) (m:List Int),(∀ u∈us,∀ c∈Zau u.1,0≤c)→(Zcv outs us m).length=m.length∧∀ k,k < m.length→(Zcv outs us m)[k]? = if (us.any fun u=>(Zau u.1).contains (k:Int)) && !outs.getD k false then some 0 else m[k]?
 | [],m,_=>⟨rfl,fun k _=>by simp [Zcv]⟩
 | u :: us,m,h=>by
   obtain ⟨h1,h2⟩:=ZiP outs (Zau u.1) m (h u (by simp));obtain ⟨h3,h4⟩:=Zjj outs us _ (fun x hx=>h x (by simp [hx]));refine ⟨h3.trans h1,fun k hk=>?_⟩;have h5:=h4 k (by rw [h1]; exact hk)
   show (Zcv outs us ((Zau u.1).foldl (Zcd outs) m))[k]? = _
   rw [h5,h2 k hk,List.any_cons]
   cases (Zau u.1).contains (k:Int) <;> cases (us.any fun u=>(Zau u.1).contains (k:Int)) <;> cases outs.getD k false <;> simp
theorem ZlS (w:Zr) (outside:Nat→Bool) (n:Nat) (h:∀ u∈w.uses,∀ c∈Zau u.1,0≤c) (outs:List Bool) (ho:∀ k,k < n→outs.getD k false=(decide (k < 2) || outside k)) :
  Zcv outs w.uses (List.replicate n (-1))=Zg8 w outside n:=by
 obtain ⟨h1,h2⟩:=Zjj outs w.uses (List.replicate n (-1)) h;rw [List.length_replicate] at h1 h2;refine Zgq h1 fun k hk=>?_;rw [h2 k hk,ho k hk,List.getElem?_replicate,if_pos hk];have hd:Zpj w (k:Int)=w.uses.any fun u=>(Zau u.1).contains (k:Int):=rfl;rw [hd]
 by_cases hk2:k < 2
 ·rw [if_neg (by simp [hk2]),if_neg (by omega)]
 ·have hk3:2≤k:=by omega
  cases (w.uses.any fun u=>(Zau u.1).contains (k:Int)) <;> cases outside k <;> simp [hk2,hk3]
def ZJ (tm:KE→Nat) (us:List (KP×Nat)) (f:Nat):Nat:=us.foldl (fun m u=>if u.2=f then max m (Zal tm u.1) else m) 0
theorem Zgo (tm:KE→Nat) (us:List (KP×Nat)) (u:KP×Nat) (f:Nat):ZJ tm (us++[u]) f=if u.2=f then max (ZJ tm us f) (Zal tm u.1) else ZJ tm us f:=by simp [ZJ]
theorem Zjz (tm:KE→Nat) {us:List (KP×Nat)} {f:Nat} (h:∀ u∈us,u.2≠f):ZJ tm us f=0:=by
 unfold ZJ
 have key:∀ (l:List (KP×Nat)) (m:Nat),(∀ u∈l,u.2≠f)→l.foldl (fun m u=>if u.2=f then max m (Zal tm u.1) else m) m=m:=by
  intro l
  induction l with
  | nil=>intro m _; rfl
  | cons u l ih=>intro m hl; rw [List.foldl_cons,if_neg (hl u (by simp)),ih _ fun x hx=>hl x (by simp [hx])]
 exact key us 0 h
theorem Zoi (tm:KE→Nat) (us:List (KP×Nat)) (u:KP×Nat) (n:Nat):(tb n fun f=>ZJ tm us f).set u.2 (max (ZJ tm us u.2) (Zal tm u.1))=tb n fun f=>ZJ tm (us++[u]) f:=by
 rw [Zd7];refine ZK fun k _=>?_;rw [Zgo]
 by_cases h:k=u.2
 ·subst h; simp
 ·rw [if_neg h,if_neg (Ne.symm h)]
def Zbu (n:Nat) (start:Nat→Nat) (ins:List Int) (sz:List Nat) (i:Nat):List Int:=tb n fun f=>((start f+ZaN ins sz (f:Int) i:Nat):Int)
theorem Zgx {n:Nat} {start:Nat→Nat} {ins:List Int} {sz:List Nat} {i f:Nat} (hi:ins.getD i (-1)=f):(Zbu n start ins sz i).set f (((start f+ZaN ins sz (f:Int) i:Nat):Int)+(sz.getD i 0:Nat))=Zbu n start ins sz (i+1):=by
 unfold Zbu;rw [Zd7];refine ZK fun k _=>?_;rw [ZaN,hi]
 by_cases h:k=f
 ·subst h; rw [if_pos rfl,if_pos rfl]; omega
 ·rw [if_neg h,if_neg (by omega)]; omega
theorem Zgy {n:Nat} {start:Nat→Nat} {ins:List Int} {sz:List Nat} {i:Nat} (hi:ins.getD i (-1) < 0):Zbu n start ins sz i=Zbu n start ins sz (i+1):=by
 unfold Zbu;refine ZK fun k _=>?_;rw [ZaN,if_neg (by omega)]
 omega
def atT (start:Int→Nat) (ins:List Int) (sz:List Nat) (i:Nat):List Int:=tb ins.length fun k=>if k < i then (if ins.getD k (-1) < 0 then -1 else ((start (ins.getD k (-1))+ZaN ins sz (ins.getD k (-1)) k:Nat):Int)) else -1
theorem Zjm (start:Int→Nat) (ins:List Int) (sz:List Nat):List.replicate ins.length (-1)=atT start ins sz 0:=by
 rw [Zhk]
 exact ZK fun k _=>by rw [if_neg (by omega)]
theorem Zl3 (start:Int→Nat) (ins:List Int) (sz:List Nat):atT start ins sz ins.length=Zbq start ins sz:=ZK fun k hk=>by rw [if_pos hk]
theorem Zjn {start:Int→Nat} {ins:List Int} {sz:List Nat} {i:Nat} {f:Int} (hi:ins.getD i (-1)=f) (hf:0≤f):(atT start ins sz i).set i ((start f+ZaN ins sz f i:Nat):Int)=atT start ins sz (i+1):=by
 unfold atT;rw [Zd7];refine ZK fun k _=>?_
 by_cases h:k=i
 ·subst h; rw [if_pos rfl,if_pos (by omega),hi,if_neg (by omega)]
 ·rw [if_neg h]
  by_cases h2:k < i
  ·have h3:k < i+1:=by omega
   simp only [h2,h3,if_true]
  ·have h3:¬ k < i+1:=by omega
   simp only [h2,h3,if_false]
theorem Zjo {start:Int→Nat} {ins:List Int} {sz:List Nat} {i:Nat} (hi:ins.getD i (-1) < 0):atT start ins sz i=atT start ins sz (i+1):=by
 unfold atT;refine ZK fun k _=>?_
 by_cases h:k=i
 ·subst h; rw [if_neg (by omega),if_pos (by omega),if_pos hi]
 ·by_cases h2:k < i
  ·have h3:k < i+1:=by omega
   simp only [h2,h3,if_true]
  ·have h3:¬ k < i+1:=by omega
   simp only [h2,h3,if_false]
theorem ZbF (ins:List Int) (sz:List Nat) (M:Nat) (hs:∀ x∈sz,x≤M) (f:Int):∀ i,ZaN ins sz f i≤i * M
 | 0=>by rw [ZaN]; omega
 | i+1=>by
   rw [ZaN];have:=ZbF ins sz M hs f i
   have h2:sz.getD i 0≤M:=by
    rw [List.getD_eq_getElem?_getD]
    cases hx:sz[i]? with
    | none=>simp
    | some x=>exact hs x (List.mem_of_getElem? hx)
   have h3:(i+1) * M=i * M+M:=Nat.succ_mul i M
   split <;> omega
section
section
variable {vs:List ZZ} {nc:Nat}
theorem Zds (deep:Nat) (high:Bool) (left:Nat) (p:KP):Zx vs nc deep high left p=if decide (32≤deep) || decide (left=0) || !ZW vs nc p || (high && p.kind == 11) then none
  else match Zn vs nc (deep+1) high (p.kind == 11) (left - 1) p.l with
   | none=>none
   | some m=>ZaF vs nc (deep+1) high m p.g:=by
 obtain ⟨kind,c,v,item,At,ct,tos,Ae,ce,e,Ag,cg,g,Al,cl,l⟩:=p;rw [Zx]
 rfl
theorem Zfb (deep:Nat) (high:Bool) (left:Nat) (g:KG):Zfz vs nc deep high left g=match g.body with
  | []=>none
  | p :: _=>Zx vs nc deep high left p:=by
 obtain ⟨_,_,_,_,_,_,_,_,body⟩:=g
 cases body <;> simp only [Zfz]
theorem ZbQ:∀ (a b:List KP) (deep:Nat) (high first:Bool) (left:Nat),Zn vs nc deep high first left (a++b)=match Zn vs nc deep high first left a with
  | none=>none
  | some r=>Zn vs nc deep high (first && a.isEmpty) r b
 | [],b,deep,high,first,left=>by rw [Zn]; simp
 | x :: a,b,deep,high,first,left=>by
   rw [List.cons_append,Zn,Zn]
   cases Zx vs nc deep (high || first) left x with
   | none=>rfl
   | some y =>
     simp only
     rw [ZbQ a b deep high false y]
     simp
theorem ZaI {l:List KP} {k deep left r:Nat} {high first:Bool} {x:KP} (h:l[k]? = some x) (hr:Zn vs nc deep high first left (l.take k)=some r) :
  Zn vs nc deep high first left (l.take (k+1))=Zx vs nc deep (high || (first && decide (k=0))) r x:=by
 have hk:k < l.length:=(List.getElem?_eq_some_iff.1 h).1
 have e:(first && (l.take k).isEmpty)=(first && decide (k=0)):=by
  congr 1
  rw [Bool.eq_iff_iff,List.isEmpty_iff,List.take_eq_nil_iff,decide_eq_true_eq]
  constructor
  ·rintro (h | rfl)
   ·exact h
   ·simp at hk
  ·exact .inl
 rw [List.take_add_one,h,Option.toList_some,ZbQ,hr];simp only [e];rw [Zn]
 cases Zx vs nc deep (high || (first && decide (k=0))) r x with
 | none=>rfl
 | some y=>simp only; rw [Zn]
theorem ZcF {l:List KP} {k deep left r:Nat} {high first:Bool} {x:KP} (h:l[k]? = some x) (hr:Zn vs nc deep high first left (l.take k)=some r) (hx:Zx vs nc deep (high || (first && decide (k=0))) r x=none) :
  Zn vs nc deep high first left l=none:=by
 have h1:Zn vs nc deep high first left (l.take (k+1))=none:=by rw [ZaI h hr,hx]
 have h2:=ZbQ (vs:=vs) (nc:=nc) (l.take (k+1)) (l.drop (k+1)) deep high first left;rw [List.take_append_drop,h1] at h2;exact h2
theorem ZcG:∀ (a b:List KG) (deep:Nat) (high:Bool) (left:Nat),ZaF vs nc deep high left (a++b)=match ZaF vs nc deep high left a with
  | none=>none
  | some r=>ZaF vs nc deep high r b
 | [],b,deep,high,left=>by rw [ZaF]; rfl
 | x :: a,b,deep,high,left=>by
   rw [List.cons_append,ZaF,ZaF]
   cases Zfz vs nc deep high left x with
   | none=>rfl
   | some y=>exact ZcG a b deep high y
theorem Zid {l:List KG} {k deep left r:Nat} {high:Bool} {x:KG} (h:l[k]? = some x) (hr:ZaF vs nc deep high left (l.take k)=some r) :
  ZaF vs nc deep high left (l.take (k+1))=Zfz vs nc deep high r x:=by
 rw [List.take_add_one,h,Option.toList_some,ZcG,hr]
 simp only
 rw [ZaF]
 cases Zfz vs nc deep high r x with
 | none=>rfl
 | some y=>simp only; rw [ZaF]
theorem Zc5:∀ {l:List KP} {deep left r:Nat} {high first:Bool},(∀ p∈l,∀ (d:Nat) (h:Bool) (a r:Nat),Zx vs nc d h a p=some r→r≤a)→Zn vs nc deep high first left l=some r→r≤left
 | [],deep,left,r,high,first,_,h=>by rw [Zn] at h; cases h; exact Nat.le_refl _
 | x :: l,deep,left,r,high,first,hall,h=>by
   rw [Zn] at h
   cases hx:Zx vs nc deep (high || first) left x with
   | none=>rw [hx] at h; cases h
   | some y =>
     rw [hx] at h;have h1:=hall x (by simp) _ _ _ _ hx;have h2:=Zc5 (l:=l) (fun e he=>hall e (by simp [he])) h
     omega
theorem ZeT:∀ {l:List KG} {deep left r:Nat} {high:Bool},(∀ g∈l,∀ p∈g.body,∀ (d:Nat) (h:Bool) (a r:Nat),Zx vs nc d h a p=some r→r≤a)→ZaF vs nc deep high left l=some r→r≤left
 | [],deep,left,r,high,_,h=>by rw [ZaF] at h; cases h; exact Nat.le_refl _
 | x :: l,deep,left,r,high,hall,h=>by
   rw [ZaF] at h
   cases hx:Zfz vs nc deep high left x with
   | none=>rw [hx] at h; cases h
   | some y =>
     rw [hx] at h;have h2:=ZeT (l:=l) (fun e he=>hall e (by simp [he])) h
     have h1:y≤left:=by
      rw [Zfb] at hx
      split at hx
      ·cases hx
      ·rename_i p r hb;exact hall x (by simp) p (by rw [hb]; simp) _ _ _ _ hx
     omega
theorem ZaB (p:KP):∀ (d:Nat) (h:Bool) (a r:Nat),Zx vs nc d h a p=some r→r≤a:=by
 induction p using KP.ind with
 | h p ih1 ih2 =>
   intro d h a r hr;rw [Zds] at hr
   split at hr
   ·cases hr
   ·cases hx:Zn vs nc (d+1) h (p.kind == 11) (a - 1) p.l with
    | none=>rw [hx] at hr; cases hr
    | some m =>
      rw [hx] at hr;have h1:=Zc5 (fun x hx=>ih2 x hx) hx;have h2:=ZeT (fun g hg x hx=>ih1 g hg x hx) hr
      omega
theorem Zfu {l:List KP} {deep left r:Nat} {high first:Bool} (h:Zn vs nc deep high first left l=some r):r≤left:=Zc5 (fun p _=>ZaB p) h
theorem Zft:∀ {l:List KP} {deep left r:Nat} {high first:Bool},Zn vs nc deep high first left l=some r→∀ p∈l,∃ h a b,Zx vs nc deep h a p=some b
 | [],_,_,_,_,_,_,p,hp=>by cases hp
 | x :: l,deep,left,r,high,first,h,p,hp=>by
   rw [Zn] at h
   cases hx:Zx vs nc deep (high || first) left x with
   | none=>rw [hx] at h; cases h
   | some y =>
     rw [hx] at h
     rcases List.mem_cons.1 hp with rfl | hp
     ·exact ⟨_,_,_,hx⟩
     ·exact Zft h p hp
theorem Zfy:∀ {l:List KG} {deep left r:Nat} {high:Bool},ZaF vs nc deep high left l=some r→∀ g∈l,∃ a b,Zfz vs nc deep high a g=some b
 | [],_,_,_,_,_,p,hp=>by cases hp
 | x :: l,deep,left,r,high,h,p,hp=>by
   rw [ZaF] at h
   cases hx:Zfz vs nc deep high left x with
   | none=>rw [hx] at h; cases h
   | some y =>
     rw [hx] at h
     rcases List.mem_cons.1 hp with rfl | hp
     ·exact ⟨_,_,hx⟩
     ·exact Zfy h p hp
theorem Zbb {choice:Bool} {g:KG} (h:ZR vs nc choice g=true):∃ p,g.body=[p]:=by
 have h1:g.body.length=1:=by
  unfold ZR at h;simp only [Bool.and_eq_true,decide_eq_true_eq] at h;exact h.1.1
 match hb:g.body,h1 with
 | [p],_=>exact ⟨p,rfl⟩
theorem Z3 {p:KP} (h:ZW vs nc p=true):∀ g∈p.g,∃ c,ZR vs nc c g=true:=by
 intro g hg
 have h0:p.g≠[]:=by rintro h; rw [h] at hg; cases hg
 have hl:0 < p.g.length:=List.length_pos_iff.2 h0;unfold ZW at h
 split at h
 all_goals first
  | (cases h; done)
  | (simp only [Za3,Bool.and_eq_true,decide_eq_true_eq] at h; omega)
  | (simp only [Bool.and_eq_true,List.all_eq_true] at h; exact ⟨_,h.2 g hg⟩)
theorem ZkK (p:KP):∀ {d:Nat} {h:Bool} {a r:Nat},Zx vs nc d h a p=some r→p.all (fun x=>ZW vs nc x=true):=by
 induction p using KP.ind with
 | h p ih1 ih2 =>
   intro d h a r hr;rw [Zds] at hr
   split at hr
   ·cases hr
   ·rename_i hc
    have hck:ZW vs nc p=true:=by cases hf:ZW vs nc p with | true=>rfl | false=>rw [hf] at hc; simp at hc
    cases hx:Zn vs nc (d+1) h (p.kind == 11) (a - 1) p.l with
    | none=>rw [hx] at hr; cases hr
    | some m =>
      rw [hx] at hr;rw [KP.all_iff];refine ⟨hck,fun g hg x hxb=>?_,fun x hxl=>?_⟩
      ·obtain ⟨a',b',hg'⟩:=Zfy hr g hg;obtain ⟨ch,hgb⟩:=Z3 hck g hg;obtain ⟨q,hq⟩:=Zbb hgb;rw [hq] at hxb
       obtain rfl:x=q:=by simpa using hxb
       rw [Zfb,hq] at hg';exact ih1 g hg x (by rw [hq]; simp) hg'
      ·obtain ⟨h',a',b',hp'⟩:=Zft hx x hxl;exact ih2 x hxl hp'
end
end
theorem ZcK {vs:List ZZ} {nc:Nat} {p:KP} (h:ZW vs nc p=true):Ze2 p:=by
 intro g hgm h3;obtain ⟨ch,hgb⟩:=Z3 h g hgm;unfold ZR at hgb;simp only [Bool.and_eq_true] at hgb;have h2:=hgb.2
 have key:ZhD g=true→g.dst.l=[]:=fun hn=>by
  simp only [ZhD,decide_eq_true_eq] at hn;exact List.length_eq_zero_iff.1 hn.2.2.2
 split at h2
 ·simp only [Bool.and_eq_true] at h2; exact key h2.2
 ·simp only [Bool.and_eq_true] at h2; exact key h2.2
 ·rename_i hk; exact absurd hk h3
 ·simp only [Bool.and_eq_true] at h2; exact key h2.1.2
 ·cases h2
end Go.Proofs.YtjndhfcfcedheaaGreatDoor
