/- Texts that belong together: Base KA KB Open Open2 KC. -/
import Derived.Test.YtjndhfcfcedheaaGreatDoorRows
import Derived.WalkKit
import Derived.WalkSpells
import Derived.WalkLawsBesides
import Derived.Maps.AppendAt
import Derived.Deep.AppendLies
import Derived.Deep.Draws
import Derived.Deep.OwnRows
import Derived.Deep.QuietTactic
import Derived.BigQuiet
import Derived.StillTailTactics
import Derived.RegionTactic
import Derived.Deep.RegionHeld3
import Derived.Deep.DeepCutAuto
import Derived.Deep.CutBlock
import Derived.OwnWalk
import Derived.Lib.Hide
import Derived.Laws.MakeOwn
import Derived.ProofKit
import Derived.SizedLaws
import Derived.DataShut
set_option linter.unusedVariables false
set_option linter.unusedSimpArgs false
set_option maxRecDepth 100000
set_option maxHeartbeats 16000000
namespace Go.Proofs.YtjndhfcfcedheaaGreatDoor
open Go.RowKit
section
theorem Zdk (a:Addr) (n:Nat):(a.add n).block=a.block:=by unfold Addr.add; split <;> rfl
theorem ZgO (a:Addr) (i j:Nat):(a.add i).add j=a.add (i+j):=by
 unfold Addr.add
 by_cases hi:i=0 <;> by_cases hj:j=0 <;> simp [hi,hj,Nat.add_assoc]
def Zo (w:World) (B size:Nat) (A:Option Addr) (n:Nat) (xs:List Value):Prop :=
 xs.length=n * size∧(0 < n→∃ ad,A=some ad∧ad.block < B∧∀ j u,xs[j]? = some u→w.cell? (ad.add j)=some u)
theorem Lh {p:Prop} (h:p):Hid p:=Lib.hid h
theorem qA {α:Type} {l:List α} {i:Nat} {a:α}:l.toArray.setIfInBounds i a=(l.set i a).toArray:=List.setIfInBounds_toArray ..
theorem qB {α:Type} {x:α} {xs:List α} {a:α}:(x :: xs).set 0 a=a :: xs:=List.set_cons_zero ..
theorem qC {α:Type} {x:α} {xs:List α} {n:Nat} {a:α}:(x :: xs).set (n+1) a=x :: xs.set n a:=List.set_cons_succ ..
section
variable {w w':World} {B B' size n:Nat} {A:Option Addr} {xs:List Value}
theorem Zo.none_:Zo w B size A 0 []:=⟨by simp,fun h=>absurd h (by omega)⟩
theorem Zo.at_ {k:Nat} (h:Zo w B 1 A n xs) (hk:k < n):∃ ad u,A=some ad∧ad.block < B∧xs[k]? = some u∧w.cell? (ad.add k)=some u:=by
 obtain ⟨ad,e,hb,hc⟩:=h.2 (by omega)
 have hl:k < xs.length:=by have:=h.1; omega
 exact ⟨ad,xs[k],e,hb,List.getElem?_eq_getElem hl,hc k _ (List.getElem?_eq_getElem hl)⟩
theorem Zo.keep (h:Zo w B size A n xs) (hk:∀ p:Addr,p.block < B→w'.cell? p=w.cell? p):Zo w' B size A n xs :=
 ⟨h.1,fun hn=>by
  obtain ⟨ad,e,hb,hc⟩:=h.2 hn
  exact ⟨ad,e,hb,fun j u hu=>(hk _ (by rw [Zdk]; exact hb)).trans (hc j u hu)⟩⟩
theorem Zo.more (h:Zo w B size A n xs) (hB:B≤B'):Zo w B' size A n xs :=
 ⟨h.1,fun hn=>by
  obtain ⟨ad,e,hb,hc⟩:=h.2 hn
  exact ⟨ad,e,by omega,hc⟩⟩
theorem Zo.below (h:Zo w B size A n xs) (hb:Below B w w'):Zo w' B size A n xs:=h.keep fun _ hp=>hb.cell hp
theorem Zo.drew (h:Zo w B size A n xs):Zo w.drew B size A n xs:=h
theorem Zo.drewN (h:Zo w B size A n xs) (k:Nat):Zo (w.drewN k) B size A n xs:=h
theorem Zo.alloc (h:Zo w B size A n xs) (hB:B≤w.heap.size) (o:Obj):Zo (w.alloc o) B size A n xs:=h.keep fun p hp=>World.cell?_alloc_lt w o p (by omega)
theorem Zo.setCell (h:Zo w B size A n xs) {p:Addr} (hB:B≤p.block) (u:Value):Zo (w.setCell p u) B size A n xs :=
 h.keep fun q hq=>World.cell?_setCell_other w p q u (fun e=>by subst e; omega)
theorem Zo.grown (h:Zo w B size A n xs) {row:Option Nat} (hg:w.grownBy w' row) (hB:B≤w.heap.size) (hr:∀ g,row=some g→B≤g):Zo w' B size A n xs :=
 h.keep fun p hp=>World.cell?_of_block (hg.block p.block (by omega) (fun e=>by have:=hr _ e.symm; omega))
theorem Zo.cut (h:Zo w B size A n xs) {k cap:Nat} (hk:k≤n) (hc:n≤cap) :
  Zo w B size (if cap=k then A else A.map (·.add (k * size))) (n - k) (xs.drop (k * size)):=by
 refine ⟨by rw [List.length_drop,h.1,Nat.sub_mul],fun hn=>?_⟩;obtain ⟨ad,rfl,hb,hcell⟩:=h.2 (by omega);rw [if_neg (by omega)];refine ⟨ad.add (k * size),rfl,by rw [Zdk]; exact hb,fun j u hu=>?_⟩;rw [ZgO];exact hcell _ u (by rw [← hu,List.getElem?_drop])
theorem Zo.of_own {base:Nat} {e:TypeId} {c:Nat} (h:w.ownsRow base e size (.slice A n c) n xs):Zo w w.heap.size size A n xs:=by
 refine ⟨h.1,fun hn=>?_⟩;obtain ⟨g,cap,hv,_,hlt⟩:=h.form hn
 have hA:A=some ⟨g,0,none⟩:=by injection hv
 subst hA;exact ⟨_,rfl,hlt,h.cells (g:=g) rfl⟩
end
def Blk (w:World) (g:Nat) (t:TypeId) (cs:Array Value):Prop:=w.heap[g]? = some (.cells cs t (0,0))
section
variable {w w':World} {g:Nat} {t:TypeId} {cs:Array Value}
theorem Blk.lt (h:Blk w g t cs):g < w.heap.size:=by
 rcases Nat.lt_or_ge g w.heap.size with hlt | hge
 ·exact hlt
 ·unfold Blk at h; rw [Array.getElem?_eq_none hge] at h; cases h
theorem Blk.cell (h:Blk w g t cs) (i:Nat):w.cell? ⟨g,i,none⟩=cs[i]?:=cell_of_row w g i cs t (0,0) h
theorem Blk.frozen (h:Blk w g t cs) (i:Nat):w.frozen? ⟨g,i,none⟩=false:=by
 unfold Blk at h
 simp [World.frozen?,h]
theorem famc {ι:Type} {F:ι→World} {w:World} {B:Nat} (h:∀ i,Below B w (F i)) {p:Addr} {v:Option Value} (hv:w.cell? p=v) (hk:p.block < B):∀ i,(F i).cell? p=v:=fun i=>((h i).cell hk).trans hv
theorem Blk.c2 (h:Blk w g t cs):w.cell? ⟨g,0,none⟩=cs[0]?∧w.cell? ⟨g,1,none⟩=cs[1]?:=⟨h.cell 0,h.cell 1⟩
theorem Blk.c3 (h:Blk w g t cs):w.cell? ⟨g,0,none⟩=cs[0]?∧w.cell? ⟨g,1,none⟩=cs[1]?∧w.cell? ⟨g,2,none⟩=cs[2]?:=⟨h.cell 0,h.cell 1,h.cell 2⟩
theorem Blk.c4 (h:Blk w g t cs):w.cell? ⟨g,0,none⟩=cs[0]?∧w.cell? ⟨g,1,none⟩=cs[1]?∧w.cell? ⟨g,2,none⟩=cs[2]?∧w.cell? ⟨g,3,none⟩=cs[3]?:=⟨h.cell 0,h.cell 1,h.cell 2,h.cell 3⟩
theorem Blk.c5 (h:Blk w g t cs):w.cell? ⟨g,0,none⟩=cs[0]?∧w.cell? ⟨g,1,none⟩=cs[1]?∧w.cell? ⟨g,2,none⟩=cs[2]?∧w.cell? ⟨g,3,none⟩=cs[3]?∧w.cell? ⟨g,4,none⟩=cs[4]?:=⟨h.cell 0,h.cell 1,h.cell 2,h.cell 3,h.cell 4⟩
theorem Blk.c6 (h:Blk w g t cs):w.cell? ⟨g,0,none⟩=cs[0]?∧w.cell? ⟨g,1,none⟩=cs[1]?∧w.cell? ⟨g,2,none⟩=cs[2]?∧w.cell? ⟨g,3,none⟩=cs[3]?∧w.cell? ⟨g,4,none⟩=cs[4]?∧w.cell? ⟨g,5,none⟩=cs[5]?:=⟨h.cell 0,h.cell 1,h.cell 2,h.cell 3,h.cell 4,h.cell 5⟩
theorem Blk.c7 (h:Blk w g t cs):w.cell? ⟨g,0,none⟩=cs[0]?∧w.cell? ⟨g,1,none⟩=cs[1]?∧w.cell? ⟨g,2,none⟩=cs[2]?∧w.cell? ⟨g,3,none⟩=cs[3]?∧w.cell? ⟨g,4,none⟩=cs[4]?∧w.cell? ⟨g,5,none⟩=cs[5]?∧w.cell? ⟨g,6,none⟩=cs[6]?:=⟨h.cell 0,h.cell 1,h.cell 2,h.cell 3,h.cell 4,h.cell 5,h.cell 6⟩
theorem Blk.c8 (h:Blk w g t cs):w.cell? ⟨g,0,none⟩=cs[0]?∧w.cell? ⟨g,1,none⟩=cs[1]?∧w.cell? ⟨g,2,none⟩=cs[2]?∧w.cell? ⟨g,3,none⟩=cs[3]?∧w.cell? ⟨g,4,none⟩=cs[4]?∧w.cell? ⟨g,5,none⟩=cs[5]?∧w.cell? ⟨g,6,none⟩=cs[6]?∧w.cell? ⟨g,7,none⟩=cs[7]?:=⟨h.cell 0,h.cell 1,h.cell 2,h.cell 3,h.cell 4,h.cell 5,h.cell 6,h.cell 7⟩
theorem Blk.c9 (h:Blk w g t cs):w.cell? ⟨g,0,none⟩=cs[0]?∧w.cell? ⟨g,1,none⟩=cs[1]?∧w.cell? ⟨g,2,none⟩=cs[2]?∧w.cell? ⟨g,3,none⟩=cs[3]?∧w.cell? ⟨g,4,none⟩=cs[4]?∧w.cell? ⟨g,5,none⟩=cs[5]?∧w.cell? ⟨g,6,none⟩=cs[6]?∧w.cell? ⟨g,7,none⟩=cs[7]?∧w.cell? ⟨g,8,none⟩=cs[8]?:=⟨h.cell 0,h.cell 1,h.cell 2,h.cell 3,h.cell 4,h.cell 5,h.cell 6,h.cell 7,h.cell 8⟩
theorem Blk.c10 (h:Blk w g t cs):w.cell? ⟨g,0,none⟩=cs[0]?∧w.cell? ⟨g,1,none⟩=cs[1]?∧w.cell? ⟨g,2,none⟩=cs[2]?∧w.cell? ⟨g,3,none⟩=cs[3]?∧w.cell? ⟨g,4,none⟩=cs[4]?∧w.cell? ⟨g,5,none⟩=cs[5]?∧w.cell? ⟨g,6,none⟩=cs[6]?∧w.cell? ⟨g,7,none⟩=cs[7]?∧w.cell? ⟨g,8,none⟩=cs[8]?∧w.cell? ⟨g,9,none⟩=cs[9]?:=⟨h.cell 0,h.cell 1,h.cell 2,h.cell 3,h.cell 4,h.cell 5,h.cell 6,h.cell 7,h.cell 8,h.cell 9⟩
theorem Blk.c11 (h:Blk w g t cs):w.cell? ⟨g,0,none⟩=cs[0]?∧w.cell? ⟨g,1,none⟩=cs[1]?∧w.cell? ⟨g,2,none⟩=cs[2]?∧w.cell? ⟨g,3,none⟩=cs[3]?∧w.cell? ⟨g,4,none⟩=cs[4]?∧w.cell? ⟨g,5,none⟩=cs[5]?∧w.cell? ⟨g,6,none⟩=cs[6]?∧w.cell? ⟨g,7,none⟩=cs[7]?∧w.cell? ⟨g,8,none⟩=cs[8]?∧w.cell? ⟨g,9,none⟩=cs[9]?∧w.cell? ⟨g,10,none⟩=cs[10]?:=⟨h.cell 0,h.cell 1,h.cell 2,h.cell 3,h.cell 4,h.cell 5,h.cell 6,h.cell 7,h.cell 8,h.cell 9,h.cell 10⟩
theorem Blk.c12 (h:Blk w g t cs):w.cell? ⟨g,0,none⟩=cs[0]?∧w.cell? ⟨g,1,none⟩=cs[1]?∧w.cell? ⟨g,2,none⟩=cs[2]?∧w.cell? ⟨g,3,none⟩=cs[3]?∧w.cell? ⟨g,4,none⟩=cs[4]?∧w.cell? ⟨g,5,none⟩=cs[5]?∧w.cell? ⟨g,6,none⟩=cs[6]?∧w.cell? ⟨g,7,none⟩=cs[7]?∧w.cell? ⟨g,8,none⟩=cs[8]?∧w.cell? ⟨g,9,none⟩=cs[9]?∧w.cell? ⟨g,10,none⟩=cs[10]?∧w.cell? ⟨g,11,none⟩=cs[11]?:=⟨h.cell 0,h.cell 1,h.cell 2,h.cell 3,h.cell 4,h.cell 5,h.cell 6,h.cell 7,h.cell 8,h.cell 9,h.cell 10,h.cell 11⟩
theorem Blk.c13 (h:Blk w g t cs):w.cell? ⟨g,0,none⟩=cs[0]?∧w.cell? ⟨g,1,none⟩=cs[1]?∧w.cell? ⟨g,2,none⟩=cs[2]?∧w.cell? ⟨g,3,none⟩=cs[3]?∧w.cell? ⟨g,4,none⟩=cs[4]?∧w.cell? ⟨g,5,none⟩=cs[5]?∧w.cell? ⟨g,6,none⟩=cs[6]?∧w.cell? ⟨g,7,none⟩=cs[7]?∧w.cell? ⟨g,8,none⟩=cs[8]?∧w.cell? ⟨g,9,none⟩=cs[9]?∧w.cell? ⟨g,10,none⟩=cs[10]?∧w.cell? ⟨g,11,none⟩=cs[11]?∧w.cell? ⟨g,12,none⟩=cs[12]?:=⟨h.cell 0,h.cell 1,h.cell 2,h.cell 3,h.cell 4,h.cell 5,h.cell 6,h.cell 7,h.cell 8,h.cell 9,h.cell 10,h.cell 11,h.cell 12⟩
theorem Blk.z2 (h:Blk w g t cs):w.frozen? ⟨g,0,none⟩=false∧w.frozen? ⟨g,1,none⟩=false:=⟨h.frozen 0,h.frozen 1⟩
theorem Blk.z3 (h:Blk w g t cs):w.frozen? ⟨g,0,none⟩=false∧w.frozen? ⟨g,1,none⟩=false∧w.frozen? ⟨g,2,none⟩=false:=⟨h.frozen 0,h.frozen 1,h.frozen 2⟩
theorem Blk.z4 (h:Blk w g t cs):w.frozen? ⟨g,0,none⟩=false∧w.frozen? ⟨g,1,none⟩=false∧w.frozen? ⟨g,2,none⟩=false∧w.frozen? ⟨g,3,none⟩=false:=⟨h.frozen 0,h.frozen 1,h.frozen 2,h.frozen 3⟩
theorem Blk.z5 (h:Blk w g t cs):w.frozen? ⟨g,0,none⟩=false∧w.frozen? ⟨g,1,none⟩=false∧w.frozen? ⟨g,2,none⟩=false∧w.frozen? ⟨g,3,none⟩=false∧w.frozen? ⟨g,4,none⟩=false:=⟨h.frozen 0,h.frozen 1,h.frozen 2,h.frozen 3,h.frozen 4⟩
theorem Blk.z6 (h:Blk w g t cs):w.frozen? ⟨g,0,none⟩=false∧w.frozen? ⟨g,1,none⟩=false∧w.frozen? ⟨g,2,none⟩=false∧w.frozen? ⟨g,3,none⟩=false∧w.frozen? ⟨g,4,none⟩=false∧w.frozen? ⟨g,5,none⟩=false:=⟨h.frozen 0,h.frozen 1,h.frozen 2,h.frozen 3,h.frozen 4,h.frozen 5⟩
theorem Blk.z7 (h:Blk w g t cs):w.frozen? ⟨g,0,none⟩=false∧w.frozen? ⟨g,1,none⟩=false∧w.frozen? ⟨g,2,none⟩=false∧w.frozen? ⟨g,3,none⟩=false∧w.frozen? ⟨g,4,none⟩=false∧w.frozen? ⟨g,5,none⟩=false∧w.frozen? ⟨g,6,none⟩=false:=⟨h.frozen 0,h.frozen 1,h.frozen 2,h.frozen 3,h.frozen 4,h.frozen 5,h.frozen 6⟩
theorem Blk.z8 (h:Blk w g t cs):w.frozen? ⟨g,0,none⟩=false∧w.frozen? ⟨g,1,none⟩=false∧w.frozen? ⟨g,2,none⟩=false∧w.frozen? ⟨g,3,none⟩=false∧w.frozen? ⟨g,4,none⟩=false∧w.frozen? ⟨g,5,none⟩=false∧w.frozen? ⟨g,6,none⟩=false∧w.frozen? ⟨g,7,none⟩=false:=⟨h.frozen 0,h.frozen 1,h.frozen 2,h.frozen 3,h.frozen 4,h.frozen 5,h.frozen 6,h.frozen 7⟩
theorem Blk.z9 (h:Blk w g t cs):w.frozen? ⟨g,0,none⟩=false∧w.frozen? ⟨g,1,none⟩=false∧w.frozen? ⟨g,2,none⟩=false∧w.frozen? ⟨g,3,none⟩=false∧w.frozen? ⟨g,4,none⟩=false∧w.frozen? ⟨g,5,none⟩=false∧w.frozen? ⟨g,6,none⟩=false∧w.frozen? ⟨g,7,none⟩=false∧w.frozen? ⟨g,8,none⟩=false:=⟨h.frozen 0,h.frozen 1,h.frozen 2,h.frozen 3,h.frozen 4,h.frozen 5,h.frozen 6,h.frozen 7,h.frozen 8⟩
theorem Blk.z10 (h:Blk w g t cs):w.frozen? ⟨g,0,none⟩=false∧w.frozen? ⟨g,1,none⟩=false∧w.frozen? ⟨g,2,none⟩=false∧w.frozen? ⟨g,3,none⟩=false∧w.frozen? ⟨g,4,none⟩=false∧w.frozen? ⟨g,5,none⟩=false∧w.frozen? ⟨g,6,none⟩=false∧w.frozen? ⟨g,7,none⟩=false∧w.frozen? ⟨g,8,none⟩=false∧w.frozen? ⟨g,9,none⟩=false:=⟨h.frozen 0,h.frozen 1,h.frozen 2,h.frozen 3,h.frozen 4,h.frozen 5,h.frozen 6,h.frozen 7,h.frozen 8,h.frozen 9⟩
theorem Blk.z11 (h:Blk w g t cs):w.frozen? ⟨g,0,none⟩=false∧w.frozen? ⟨g,1,none⟩=false∧w.frozen? ⟨g,2,none⟩=false∧w.frozen? ⟨g,3,none⟩=false∧w.frozen? ⟨g,4,none⟩=false∧w.frozen? ⟨g,5,none⟩=false∧w.frozen? ⟨g,6,none⟩=false∧w.frozen? ⟨g,7,none⟩=false∧w.frozen? ⟨g,8,none⟩=false∧w.frozen? ⟨g,9,none⟩=false∧w.frozen? ⟨g,10,none⟩=false:=⟨h.frozen 0,h.frozen 1,h.frozen 2,h.frozen 3,h.frozen 4,h.frozen 5,h.frozen 6,h.frozen 7,h.frozen 8,h.frozen 9,h.frozen 10⟩
theorem Blk.z12 (h:Blk w g t cs):w.frozen? ⟨g,0,none⟩=false∧w.frozen? ⟨g,1,none⟩=false∧w.frozen? ⟨g,2,none⟩=false∧w.frozen? ⟨g,3,none⟩=false∧w.frozen? ⟨g,4,none⟩=false∧w.frozen? ⟨g,5,none⟩=false∧w.frozen? ⟨g,6,none⟩=false∧w.frozen? ⟨g,7,none⟩=false∧w.frozen? ⟨g,8,none⟩=false∧w.frozen? ⟨g,9,none⟩=false∧w.frozen? ⟨g,10,none⟩=false∧w.frozen? ⟨g,11,none⟩=false:=⟨h.frozen 0,h.frozen 1,h.frozen 2,h.frozen 3,h.frozen 4,h.frozen 5,h.frozen 6,h.frozen 7,h.frozen 8,h.frozen 9,h.frozen 10,h.frozen 11⟩
theorem Blk.z13 (h:Blk w g t cs):w.frozen? ⟨g,0,none⟩=false∧w.frozen? ⟨g,1,none⟩=false∧w.frozen? ⟨g,2,none⟩=false∧w.frozen? ⟨g,3,none⟩=false∧w.frozen? ⟨g,4,none⟩=false∧w.frozen? ⟨g,5,none⟩=false∧w.frozen? ⟨g,6,none⟩=false∧w.frozen? ⟨g,7,none⟩=false∧w.frozen? ⟨g,8,none⟩=false∧w.frozen? ⟨g,9,none⟩=false∧w.frozen? ⟨g,10,none⟩=false∧w.frozen? ⟨g,11,none⟩=false∧w.frozen? ⟨g,12,none⟩=false:=⟨h.frozen 0,h.frozen 1,h.frozen 2,h.frozen 3,h.frozen 4,h.frozen 5,h.frozen 6,h.frozen 7,h.frozen 8,h.frozen 9,h.frozen 10,h.frozen 11,h.frozen 12⟩
theorem Blk.new (w:World) (t:TypeId) (cs:Array Value):Blk (w.alloc (.cells cs t)) w.heap.size t cs:=heap_alloc_new w _
theorem Blk.drew (h:Blk w g t cs):Blk w.drew g t cs:=h
theorem Blk.drewN (h:Blk w g t cs) (n:Nat):Blk (w.drewN n) g t cs:=h
theorem Blk.alloc (h:Blk w g t cs) (o:Obj):Blk (w.alloc o) g t cs:=(Below.heap_alloc w o g h.lt).trans h
theorem Blk.set_ (h:Blk w g t cs) (i:Nat) (u:Value):Blk (w.setCell ⟨g,i,none⟩ u) g t (cs.setIfInBounds i u):=by
 unfold Blk at h ⊢
 simp [World.setCell,Array.getElem?_modify,h]
theorem Blk.far (h:Blk w g t cs) {p:Addr} (hp:g≠p.block) (u:Value):Blk (w.setCell p u) g t cs:=(Below.heap_setCell w p u g hp).trans h
theorem Blk.below {B:Nat} (h:Blk w g t cs) (hb:Below B w w') (hg:g < B):Blk w' g t cs:=(hb.block g hg).trans h
theorem Blk.grown {row:Option Nat} (h:Blk w g t cs) (hb:w.grownBy w' row) (hg:some g≠row):Blk w' g t cs:=(hb.block g h.lt hg).trans h
theorem Blk.ne_ {g':Nat} {t':TypeId} {cs':Array Value} (h:Blk w g t cs) (h':Blk w g' t' cs') (hne:t≠t'):g≠g':=by
 rintro rfl;unfold Blk at h h';rw [h] at h'
 injection h' with h'
 injection h' with _ ht
 exact hne ht
theorem Zg {base:Nat} {e:TypeId} {size n:Nat} {v:Value} {xs:List Value} (h:w.ownsRow base e size v n xs) (hg:Blk w g t cs) (hne:e≠t):v.ownBlock≠some g:=by
 rcases h.2 with ⟨rfl,_⟩ | ⟨g',cap,cur,rfl,_,hh,_⟩
 ·simp [Value.ownBlock]
 ·intro he
  have:g'=g:=by simpa [Value.ownBlock] using he
  subst this;exact Blk.ne_ (t:=e) hh hg hne rfl
end
section
variable {P:Program} (w:World)
theorem ZeB (base:Nat) (t ty e:TypeId) (i:TypeInfo) (size:Nat) (ht:P.underlying t=some (.slice e)) (hi:P.info? e=some i)
  (v:Value) (n:Nat) (xs:List Value) (hown:w.ownsRow base e size v n xs) (c:Nat):(Builtin.append_ #[t,t] ty #[v,.slice none 0 c]).run P w = .ok v w:=by
 rcases hown.2 with ⟨rfl,rfl⟩ | ⟨g,cap,cur,rfl,_,_,hnc,_⟩
 ·simp [Builtin.append_,run_underlying ht,sizeOf,typeInfo,hi,Builtin.lenOf,Builtin.firstCells]
 ·simp [Builtin.append_,run_underlying ht,sizeOf,typeInfo,hi,Builtin.lenOf,Builtin.firstCells,hnc,storeCells]
theorem Zgi (base:Nat) (t ty e:TypeId) (i:TypeInfo) (z:Value) (size bytes:Nat) (ht:P.underlying t=some (.slice e)) (hi:P.info? e=some i) (hz:i.zero=some z)
  (hsize:i.size=size) (hby:i.bytes=bytes) (hzs:z.cells.size=size) (hsz:0 < size)
  (v:Value) (n:Nat) (xs:List Value) (hown:w.ownsRow base e size v n xs)
  (B:Nat) (A:Option Addr) (m c:Nat) (news:List Value) (hr:Zo w B size A m news) (h1:∀ u∈news,u.oneCell'=true)
  (h63:n+m≤maxLen) (hbytes:(n+m) * bytes≤140737488355328) (hbase:base≤w.heap.size) :
  ∃ v' w',(Builtin.append_ #[t,t] ty #[v,.slice A m c]).run P w = .ok v' w'∧w'.ownsRow base e size v' (n+m) (xs++news)∧w.grownBy w' v.ownBlock ∧
   (v'.ownBlock=v.ownBlock∨v'.ownBlock=some w.heap.size):=by
 rcases A with _ | ad
 ·have hm:m=0:=by
   rcases Nat.eq_zero_or_pos m with h0 | h0
   ·exact h0
   ·obtain ⟨ad,h,_⟩:=hr.2 h0
    cases h
  subst hm;have hn:news=[]:=List.eq_nil_of_length_eq_zero (by simpa using hr.1);subst hn;exact ⟨v,w,ZeB w base t ty e i size ht hi v n xs hown c,by simpa using hown,World.grownBy.refl w _,.inl rfl⟩
 ·have hcells:∀ j u,news[j]? = some u→w.cell? (ad.add j)=some u:=by
   intro j u hu
   rcases Nat.eq_zero_or_pos m with h0 | h0
   ·subst h0;have hn:news=[]:=List.eq_nil_of_length_eq_zero (by simpa using hr.1);subst hn;simp at hu
   ·obtain ⟨ad',h,_,hc⟩:=hr.2 h0
    injection h with h
    subst h;exact hc j u hu
  obtain ⟨v',w',hrun,h2,h3,_,h5⟩:=run_append_own_at (P:=P) w base t ty e i z size bytes ht hi hz hsize hby hzs hsz v n xs hown ad m c news hr.1 hcells h1 h63 hbytes hbase;exact ⟨v',w',hrun,h2,h3,h5⟩
theorem Zd1 {o:Oper} {a:Act} {K:Act→World→Prop} {Q:Exit→Act→World→Prop} (s x:Operand) (t:TypeId)
  (ho:o.op = .call { callee:=.builtin .append,args:=#[s,x],argTypes:=#[t,t] })
  (base:Nat) (e:TypeId) (i:TypeInfo) (z:Value) (size bytes:Nat) (ht:P.underlying t=some (.slice e)) (hi:P.info? e=some i) (hz:i.zero=some z)
  (hsize:i.size=size) (hby:i.bytes=bytes) (hzs:z.cells.size=size) (hsz:0 < size)
  (v:Value) (n:Nat) (xs:List Value) (hs:a.eval s=v) (hown:w.ownsRow base e size v n xs)
  (B:Nat) (A:Option Addr) (m c:Nat) (news:List Value) (hx:a.eval x = .slice A m c) (hr:Zo w B size A m news) (h1:∀ u∈news,u.oneCell'=true)
  (h63:n+m≤maxLen) (hbytes:(n+m) * bytes≤140737488355328) (hbase:base≤w.heap.size)
  (h:∀ v' w',w'.ownsRow base e size v' (n+m) (xs++news)→w.grownBy w' v.ownBlock→(v'.ownBlock=v.ownBlock∨v'.ownBlock=some w.heap.size)→K (a.put o.dst v') w'):o.wp P a w K Q:=by
 obtain ⟨v',w',hrun,h2,h3,h4⟩:=Zgi (P:=P) w base t o.type e i z size bytes ht hi hz hsize hby hzs hsz v n xs hown B A m c news hr h1 h63 hbytes hbase;unfold Oper.wp execOp;simp only [ho,resolve,invoke,builtin,Sem.run_bind,Sem.run_pure,Result.andThen_ok,List.map_toArray,List.map_cons,List.map_nil,hs,hx,hrun];exact h v' w' h2 h3 h4
theorem Zcn {ops:Array Oper} {rest:List Oper} {o:Oper} {a:Act} {Q:Exit→Act→World→Prop} (hgd:o.guard=none) (s x:Operand) (t:TypeId)
  (ho:o.op = .call { callee:=.builtin .append,args:=#[s,x],argTypes:=#[t,t] })
  (base:Nat) (e:TypeId) (i:TypeInfo) (z:Value) (size bytes:Nat) (ht:P.underlying t=some (.slice e)) (hi:P.info? e=some i) (hz:i.zero=some z)
  (hsize:i.size=size) (hby:i.bytes=bytes) (hzs:z.cells.size=size) (hsz:0 < size)
  (v:Value) (n:Nat) (xs:List Value) (hs:a.eval s=v) (hown:w.ownsRow base e size v n xs)
  (B:Nat) (A:Option Addr) (m c:Nat) (news:List Value) (hx:a.eval x = .slice A m c) (hr:Zo w B size A m news) (h1:∀ u∈news,u.oneCell'=true)
  (h63:n+m≤maxLen) (hbytes:(n+m) * bytes≤140737488355328) (hbase:base≤w.heap.size)
  (h:∀ v' w',w'.ownsRow base e size v' (n+m) (xs++news)→w.grownBy w' v.ownBlock→(v'.ownBlock=v.ownBlock∨v'.ownBlock=some w.heap.size)→wpList P ops Q rest (a.put o.dst v') w'):wpList P ops Q (o :: rest) a w :=
 wpList_plain hgd fun _ hK=>Zd1 w s x t ho base e i z size bytes ht hi hz hsize hby hzs hsz v n xs hs hown B A m c news hx hr h1 h63 hbytes hbase fun v' w' h2 h3 h4=>hK _ _ (h v' w' h2 h3 h4)
theorem Zc3 {ops:Array Oper} {o:Oper} {a:Act} {K:Act→World→Prop} {Q:Exit→Act→World→Prop} {E:Prop} (hgd:o.guard=none) (s x:Operand) (t:TypeId)
  (ho:o.op = .call { callee:=.builtin .append,args:=#[s,x],argTypes:=#[t,t] })
  (base:Nat) (e:TypeId) (i:TypeInfo) (z:Value) (size bytes:Nat) (ht:P.underlying t=some (.slice e)) (hi:P.info? e=some i) (hz:i.zero=some z)
  (hsize:i.size=size) (hby:i.bytes=bytes) (hzs:z.cells.size=size) (hsz:0 < size)
  (v:Value) (n:Nat) (xs:List Value) (hs:a.eval s=v) (hown:w.ownsRow base e size v n xs)
  (B:Nat) (A:Option Addr) (m c:Nat) (news:List Value) (hx:a.eval x = .slice A m c) (hr:Zo w B size A m news) (h1:∀ u∈news,u.oneCell'=true)
  (h63:n+m≤maxLen) (hbytes:(n+m) * bytes≤140737488355328) (hbase:base≤w.heap.size)
  (h:∀ v' w',w'.ownsRow base e size v' (n+m) (xs++news)→w.grownBy w' v.ownBlock→(v'.ownBlock=v.ownBlock∨v'.ownBlock=some w.heap.size)→K (a.put o.dst v') w') :
  if Region.wanted o (yielded ops a.tmps)=true then Oper.wp P o a w K Q else E:=by
 have hw:Region.wanted o (yielded ops a.tmps)=true:=by simp [Region.wanted,hgd]
 rw [if_pos hw];exact Zd1 w s x t ho base e i z size bytes ht hi hz hsize hby hzs hsz v n xs hs hown B A m c news hx hr h1 h63 hbytes hbase h
end
theorem Zm {B:Nat} {a w:World} (h:Below B a w) (n:Nat):Below B a (w.drewN n):=⟨h.os,h.tape,h.output,h.size,h.block⟩
theorem ZcD {P:Program} (t e:TypeId) (i:TypeInfo) (z:Value) (ht:P.underlying t=some (.slice e)) (hi:P.info? e=some i) (hz:i.zero=some z)
  (kl kc:IntKind) (n c:Nat) (hnc:n≤c) (hbytes:i.bytes * c≤281474976710656) (h63:c≤9223372036854775807) (w:World) :
  (Instr.makeSlice t (.int kl (n:Int)) (.int kc (c:Int))).run P w = .ok (.slice (some ⟨w.heap.size,0,none⟩) n c) (w.alloc (.cells (madeCells z.cells (c * i.size)) e)):=by
 have hb:(i.bytes:Int) * (c:Int)≤281474976710656:=by
  have h:((i.bytes * c:Nat):Int)≤281474976710656:=by omega
  rwa [Int.natCast_mul] at h
 have hr:=run_make (P:=P) w t e i z ht hi hz kl kc n c (by omega) (by omega) hb (by omega);simp only [Int.toNat_natCast] at hr;exact hr
def Zu (v:Value) (w:World) (e:Ending) (w':World):Prop:=e = .returned v∧Below w.heap.size w w'
theorem ZbT {W w1:World} (hb:Below W.heap.size W w1):(∀ b o,b < W.heap.size→w1.cell? ⟨b,o,none⟩=W.cell? ⟨b,o,none⟩)∧(∀ b o,b < W.heap.size→w1.frozen? ⟨b,o,none⟩=W.frozen? ⟨b,o,none⟩) :=
 ⟨fun b o h=>hb.cell (p:=⟨b,o,none⟩) h,fun b o h=>hb.frozen (p:=⟨b,o,none⟩) h⟩
theorem _root_.Go.RowKit.Below.drewN' {B:Nat} {a w:World} (h:Below B a w) (n:Nat):Below B a (w.drewN n):=Zm h n
theorem Zo.addr {w:World} {B n size:Nat} {A:Option Addr} {xs:List Value} (h:Zo w B size A n xs) (hn:0 < n) (hs:0 < size) :
  ∃ b off,A=some ⟨b,off,none⟩∧b < B∧∀ j u,xs[j]? = some u→w.cell? ⟨b,off+j,none⟩=some u:=by
 obtain ⟨ad,rfl,hb,hc⟩:=h.2 hn
 have hl:0 < xs.length:=by rw [h.1]; exact Nat.mul_pos hn hs
 have h0:=hc 0 _ (List.getElem?_eq_getElem hl);obtain ⟨b,off,spot⟩:=ad
 have hsp:spot=none:=by simpa [Addr.add] using World.cell?_spot h0
 subst hsp;refine ⟨b,off,rfl,hb,fun j u hu=>?_⟩;have:=hc j u hu;unfold Addr.add at this
 split at this
 ·rename_i h; subst h; simpa using this
 ·simpa using this
def RetS (size n:Nat) (xs:List Value) (w:World) (e:Ending) (w':World):Prop :=
 ∃ A c,e = .returned (.slice A n c)∧Zo w' w'.heap.size size A n xs∧Below w.heap.size w w'
theorem RetS.of_own {w w':World} {base e size n:Nat} {v:Value} {xs:List Value} (h:w'.ownsRow base e size v n xs) (hB:Below w.heap.size w w'):RetS size n xs w (.returned v) w':=by
 rcases h.2 with ⟨rfl,rfl⟩ | ⟨g,cap,cur,rfl,_⟩
 ·exact ⟨_,_,rfl,Zo.of_own h,hB⟩
 ·exact ⟨_,_,rfl,Zo.of_own h,hB⟩
theorem Zf8 (w:World) (x y:Array Value) (t u:TypeId):Below w.heap.size w ((w.alloc (.cells x t)).alloc (.cells y u)) ∧
  Blk ((w.alloc (.cells x t)).alloc (.cells y u)) w.heap.size t x∧Blk ((w.alloc (.cells x t)).alloc (.cells y u)) (w.heap.size+1) u y :=
 ⟨((Below.refl _ _).alloc (Nat.le_refl _) _).alloc (by simp) _,(Blk.new _ _ _).alloc _,by simpa using Blk.new (w.alloc (.cells x t)) u y⟩
theorem lay3 (w:World) (x y z:Array Value) (t u v:TypeId):Below w.heap.size w (((w.alloc (.cells x t)).alloc (.cells y u)).alloc (.cells z v)) ∧
  Blk (((w.alloc (.cells x t)).alloc (.cells y u)).alloc (.cells z v)) w.heap.size t x∧Blk (((w.alloc (.cells x t)).alloc (.cells y u)).alloc (.cells z v)) (w.heap.size+1) u y ∧
  Blk (((w.alloc (.cells x t)).alloc (.cells y u)).alloc (.cells z v)) (w.heap.size+1+1) v z:=by
 obtain ⟨h1,h2,h3⟩:=Zf8 w x y t u;refine ⟨h1.alloc (by simp; omega) _,h2.alloc _,h3.alloc _,by simpa using Blk.new ((w.alloc (.cells x t)).alloc (.cells y u)) v z⟩
theorem _root_.Go.RowKit.Below.size' {B:Nat} {w w':World} (h:Below B w w'):w.heap.size≤w'.heap.size:=h.size
theorem Zcb {P:Program} {ops:Array Oper} {rest:List Oper} {o:Oper} {a:Act} {Q:Exit→Act→World→Prop} {w:World} {t B e size bytes:Nat} {i:TypeInfo} {z v:Value} {n:Nat} {xs:List Value}
  (ht:P.underlying t=some (.slice e)) (hi:P.info? e=some i) (hz:i.zero=some z) (hsize:i.size=size) (hby:i.bytes=bytes) (hzs:z.cells.size=size) (hsz:0 < size)
  (hown:w.ownsRow B e size v n xs) (hB:B≤w.heap.size) (hgd:o.guard=none) (s x:Operand)
  (ho:o.op = .call { callee:=.builtin .append,args:=#[s,x],argTypes:=#[t,t] }) (hs:a.eval s=v)
  (g m c:Nat) (news:Array Value) (hx:a.eval x = .slice (some ⟨g,0,none⟩) m c) (hb:Blk w g e news) (hl:news.size=m * size) (h1:∀ u∈news.toList,u.oneCell'=true)
  (h63:n+m≤1099511627776) (hbytes:(n+m) * bytes≤140737488355328)
  (h:∀ v' w',w'.ownsRow B e size v' (n+m) (xs++news.toList)→w.grownBy w' v.ownBlock→Below B w w'→(v'.ownBlock=v.ownBlock∨v'.ownBlock=some w.heap.size)→wpList P ops Q rest (a.put o.dst v') w') :
  wpList P ops Q (o :: rest) a w:=by
 refine Zcn w hgd s x t ho B e i z size bytes ht hi hz hsize hby hzs hsz v n xs hs hown (g+1) (some ⟨g,0,none⟩) m c news.toList hx ⟨by simpa using hl,fun _=>⟨_,rfl,by simp,fun j u hu=>?_⟩⟩ h1 (by unfold maxLen; omega) hbytes hB ?_
 ·have:=hb.cell j
  have hadd:(⟨g,0,none⟩:Addr).add j=⟨g,j,none⟩:=by unfold Addr.add; split <;> simp_all
  rw [hadd,this]; simpa using hu
 ·intro v' w' hown' hg hat;refine h v' w' hown' hg ?_ hat;exact (Below.refl _ _).grown hg hB (fun k hk=>(hown.lt k hk).1)
theorem Zc4 {P:Program} {ops:Array Oper} {o:Oper} {a:Act} {K:Act→World→Prop} {Q:Exit→Act→World→Prop} {E:Prop} {w:World} {t B e size bytes:Nat} {i:TypeInfo} {z v:Value} {n:Nat} {xs:List Value}
  (ht:P.underlying t=some (.slice e)) (hi:P.info? e=some i) (hz:i.zero=some z) (hsize:i.size=size) (hby:i.bytes=bytes) (hzs:z.cells.size=size) (hsz:0 < size)
  (hown:w.ownsRow B e size v n xs) (hB:B≤w.heap.size) (hgd:o.guard=none) (s x:Operand)
  (ho:o.op = .call { callee:=.builtin .append,args:=#[s,x],argTypes:=#[t,t] }) (hs:a.eval s=v)
  (g m c:Nat) (news:Array Value) (hx:a.eval x = .slice (some ⟨g,0,none⟩) m c) (hb:Blk w g e news) (hl:news.size=m * size) (h1:∀ u∈news.toList,u.oneCell'=true)
  (h63:n+m≤1099511627776) (hbytes:(n+m) * bytes≤140737488355328)
  (h:∀ v' w',w'.ownsRow B e size v' (n+m) (xs++news.toList)→w.grownBy w' v.ownBlock→Below B w w'→(v'.ownBlock=v.ownBlock∨v'.ownBlock=some w.heap.size)→K (a.put o.dst v') w') :
  if Region.wanted o (yielded ops a.tmps)=true then Oper.wp P o a w K Q else E:=by
 refine Zc3 w hgd s x t ho B e i z size bytes ht hi hz hsize hby hzs hsz v n xs hs hown (g+1) (some ⟨g,0,none⟩) m c news.toList hx ⟨by simpa using hl,fun _=>⟨_,rfl,by simp,fun j u hu=>?_⟩⟩ h1 (by unfold maxLen; omega) hbytes hB ?_
 ·have:=hb.cell j
  have hadd:(⟨g,0,none⟩:Addr).add j=⟨g,j,none⟩:=by unfold Addr.add; split <;> simp_all
  rw [hadd,this]; simpa using hu
 ·intro v' w' hown' hg hat;refine h v' w' hown' hg ?_ hat;exact (Below.refl _ _).grown hg hB (fun k hk=>(hown.lt k hk).1)
theorem _root_.Go.World.ownsRow.drewN {w:World} {base e size n:Nat} {v:Value} {xs:List Value} (h:w.ownsRow base e size v n xs) (k:Nat):(w.drewN k).ownsRow base e size v n xs:=h
theorem _root_.Go.World.ownsRow.drew' {w:World} {base e size n:Nat} {v:Value} {xs:List Value} (h:w.ownsRow base e size v n xs):w.drew.ownsRow base e size v n xs:=h
theorem _root_.Go.World.ownsRow.below {w w':World} {base e size n:Nat} {v:Value} {xs:List Value} (h:w.ownsRow base e size v n xs) (hb:Below w.heap.size w w'):w'.ownsRow base e size v n xs:=by
 refine ⟨h.1,?_⟩
 rcases h.2 with hn | ⟨g,cap,cur,rfl,hb',hgg,rest⟩
 ·exact .inl hn
 ·refine .inr ⟨g,cap,cur,rfl,hb',?_,rest⟩;rw [hb.block g (Array.getElem?_eq_some_iff.1 hgg).1];exact hgg
theorem _root_.Go.RowKit.Below.call {B:Nat} {a w w':World} (h:Below B a w) (hB:B≤w.heap.size) (k:Below w.heap.size w w'):Below B a w':=h.trans (k.mono hB)
theorem Blk.call {w w':World} {g:Nat} {t:TypeId} {cs:Array Value} (h:Blk w g t cs) (k:Below w.heap.size w w'):Blk w' g t cs:=h.below k h.lt
theorem Zo.call {w w':World} {size n:Nat} {A:Option Addr} {xs:List Value} (h:Zo w w.heap.size size A n xs) (k:Below w.heap.size w w'):Zo w' w'.heap.size size A n xs:=(h.below k).more k.size
theorem Z2 {w:World} {base e size n:Nat} {v:Value} {xs:List Value} (h:w.ownsRow base e size v n xs) (hn:0 < n):∃ g cap,v = .slice (some ⟨g,0,none⟩) n cap∧base≤g∧g < w.heap.size:=by
 rcases h.2 with ⟨rfl,rfl⟩ | ⟨g,cap,cur,rfl,hb,hg,_⟩
 ·omega
 ·exact ⟨g,cap,rfl,hb,(Array.getElem?_eq_some_iff.1 hg).1⟩
def Zi (wr w':World):Prop:=wr.heap.size≤w'.heap.size∧∀ b o,b < wr.heap.size→w'.cell? ⟨b,o,none⟩=wr.cell? ⟨b,o,none⟩
theorem Zi.refl (wr:World):Zi wr wr:=⟨Nat.le_refl _,fun _ _ _=>rfl⟩
theorem Zi.drew {wr:World}:Zi wr wr.drew:=⟨Nat.le_refl _,fun _ _ _=>rfl⟩
theorem Zi.alloc {wr w:World} (h:Zi wr w) (o:Obj):Zi wr (w.alloc o) :=
 ⟨by have:=h.1; simp; omega,fun b k hb=>by rw [World.cell?_alloc_lt w o ⟨b,k,none⟩ (by have:=h.1; simp; omega)]; exact h.2 b k hb⟩
theorem Zi.below {wr w w':World} (h:Zi wr w) (k:Below w.heap.size w w'):Zi wr w' :=
 ⟨Nat.le_trans h.1 k.size,fun b o hb=>(k.cell (p:=⟨b,o,none⟩) (by have:=h.1; simp; omega)).trans (h.2 b o hb)⟩
theorem Zi.set {wr w:World} (h:Zi wr w) {p:Addr} (hp:wr.heap.size≤p.block) (v:Value):Zi wr (w.setCell p v) :=
 ⟨by simpa [World.setCell] using h.1,fun b o hb=>by rw [World.cell?_setCell_other w p ⟨b,o,none⟩ v (fun e=>by subst e; simp at hp; omega)]; exact h.2 b o hb⟩
def SBl (B:Nat) (wr w':World):Prop:=B≤w'.heap.size∧∀ b o,b < B→w'.cell? ⟨b,o,none⟩=wr.cell? ⟨b,o,none⟩
theorem SBl.drew {B:Nat} {wr:World} (h:B≤wr.heap.size):SBl B wr wr.drew:=⟨h,fun _ _ _=>rfl⟩
theorem SBl.alloc {B:Nat} {wr w:World} (h:SBl B wr w) (o:Obj):SBl B wr (w.alloc o) :=
 ⟨by have:=h.1; simp; omega,fun b k hb=>by rw [World.cell?_alloc_lt w o ⟨b,k,none⟩ (by have:=h.1; simp; omega)]; exact h.2 b k hb⟩
theorem SBl.below {B C:Nat} {wr w w':World} (h:SBl B wr w) (k:Below C w w') (hC:B≤C):SBl B wr w' :=
 ⟨Nat.le_trans h.1 k.size,fun b o hb=>(k.cell (p:=⟨b,o,none⟩) (by simp; omega)).trans (h.2 b o hb)⟩
theorem SBl.call {B:Nat} {wr w w':World} (h:SBl B wr w) (k:Below w.heap.size w w'):SBl B wr w':=h.below k h.1
theorem SBl.set {B:Nat} {wr w:World} (h:SBl B wr w) {p:Addr} (hp:B≤p.block) (v:Value):SBl B wr (w.setCell p v) :=
 ⟨by simpa [World.setCell] using h.1,fun b o hb=>by rw [World.cell?_setCell_other w p ⟨b,o,none⟩ v (fun e=>by subst e; simp at hp; omega)]; exact h.2 b o hb⟩
theorem _root_.Go.World.ownsRow.keep {w w':World} {base e size n B:Nat} {v:Value} {xs:List Value} (h:w.ownsRow base e size v n xs) (hb:Below B w w') (hB:w.heap.size≤B):w'.ownsRow base e size v n xs:=h.below (hb.mono hB)
theorem Zo.up {w w':World} {B size n:Nat} {A:Option Addr} {xs:List Value} (h:Zo w B size A n xs) (k:Below B w w') (hB:B≤w'.heap.size):Zo w' w'.heap.size size A n xs:=(h.below k).more hB
def Zax (w:World) (B:Nat) (e:TypeId) (size:Nat) (v:Value) (n:Nat) (xs:List Value):Prop :=
 xs.length=n * size∧∃ g o cap cur,v = .slice (some ⟨g,o,none⟩) n cap∧B≤g∧w.heap[g]? = some (.cells cur e (0,0))∧n≤cap∧cap≤maxLen∧o+cap * size≤cur.size∧(cur.toList.drop o).take (n * size)=xs
theorem Zax.of_own {w:World} {B e size n:Nat} {v:Value} {xs:List Value} (h:w.ownsRow B e size v n xs) (hn:0 < n):Zax w B e size v n xs:=by
 rcases h.2 with ⟨rfl,rfl⟩ | ⟨g,cap,cur,rfl,hb,hg,hc,hm,hs,ht⟩
 ·omega
 ·exact ⟨h.1,g,0,cap,cur,rfl,hb,hg,hc,hm,by omega,by simpa using ht⟩
theorem Zax.keep {w w':World} {B e size n:Nat} {v:Value} {xs:List Value} (h:Zax w B e size v n xs) (hk:∀ g cur t,v.ownBlock=some g→w.heap[g]? = some (.cells cur t (0,0))→w'.heap[g]? = some (.cells cur t (0,0))):Zax w' B e size v n xs:=by
 obtain ⟨h1,g,o,cap,cur,rfl,hb,hg,rest⟩:=h;exact ⟨h1,g,o,cap,cur,rfl,hb,hk g cur e rfl hg,rest⟩
theorem Zax.lt {w:World} {B e size n:Nat} {v:Value} {xs:List Value} (h:Zax w B e size v n xs):∃ g,v.ownBlock=some g∧B≤g∧g < w.heap.size:=by
 obtain ⟨h1,g,o,cap,cur,rfl,hb,hg,rest⟩:=h;exact ⟨g,rfl,hb,(Array.getElem?_eq_some_iff.1 hg).1⟩
theorem Zax.below {w w':World} {B e size n:Nat} {v:Value} {xs:List Value} (h:Zax w B e size v n xs) (hb:Below w.heap.size w w'):Zax w' B e size v n xs:=by
 obtain ⟨g',e',_,hlt⟩:=h.lt
 exact h.keep fun g cur t hg hh=>by rw [e'] at hg; injection hg with hg; subst hg; rw [hb.block _ hlt]; exact hh
theorem Zax.alloc {w:World} {B e size n:Nat} {v:Value} {xs:List Value} (h:Zax w B e size v n xs) (o:Obj):Zax (w.alloc o) B e size v n xs:=h.below ((Below.refl _ _).alloc (Nat.le_refl _) _)
theorem Zax.drewN {w:World} {B e size n:Nat} {v:Value} {xs:List Value} (h:Zax w B e size v n xs) (k:Nat):Zax (w.drewN k) B e size v n xs:=h
theorem Zax.form {w:World} {B e size n:Nat} {v:Value} {xs:List Value} (h:Zax w B e size v n xs):∃ g o cap,v = .slice (some ⟨g,o,none⟩) n cap∧B≤g∧g < w.heap.size∧n≤cap∧cap≤maxLen∧∀ j,j < n * size→w.cell? ⟨g,o+j,none⟩=xs[j]?:=by
 obtain ⟨h1,g,o,cap,cur,rfl,hb,hg,hc,hm,hs,ht⟩:=h;refine ⟨g,o,cap,rfl,hb,(Array.getElem?_eq_some_iff.1 hg).1,hc,hm,fun j hj=>?_⟩;rw [cell_of_row w g (o+j) cur e (0,0) hg,← ht,List.getElem?_take,if_pos hj,List.getElem?_drop]
 simp
theorem Zax.tail {w:World} {B e size n g o cap:Nat} {xs:List Value} (h:Zax w B e size (.slice (some ⟨g,o,none⟩) (n+1) cap) (n+1) xs) :
  Zax w B e size (.slice (some (if cap=1 then ⟨g,o,none⟩ else ⟨g,o+size,none⟩)) n (cap - 1)) n (xs.drop size):=by
 obtain ⟨h1,g',o',cap',cur,e',hb,hg,hc,hm,hs,ht⟩:=h
 injection e' with e1 e2 e3
 injection e1 with e1
 injection e1 with e4 e5
 subst e3 e4 e5;refine ⟨by rw [List.length_drop,h1,Nat.succ_mul]; omega,?_⟩
 by_cases h0:cap=1
 ·subst h0
  obtain rfl:n=0:=by omega
  refine ⟨g,o,0,cur,by simp,hb,hg,by omega,by omega,by omega,?_⟩
  have hxs:xs.length=size:=by rw [h1]; simp
  rw [List.drop_eq_nil_of_le (Nat.le_of_eq hxs),Nat.zero_mul,List.take_zero]
 ·rw [if_neg h0]
  obtain ⟨d,rfl⟩:∃ d,cap=d+1:=⟨cap - 1,by omega⟩
  refine ⟨g,o+size,d,cur,by simp,hb,hg,by omega,by omega,by rw [Nat.succ_mul] at hs; omega,?_⟩;rw [← ht,List.drop_take,List.drop_drop,Nat.succ_mul,Nat.add_sub_cancel]
end
section
structure KE where
 kind:Nat
 oper:Nat
 tk:Nat
 n:Int
 v:Int
 A:Option Addr
 c:Nat
 l:List KE
structure KPl where
 v:Int
 A:Option Addr
 c:Nat
 l:List KE
mutual
structure KP where
 kind:Nat
 c:Int
 v:Int
 item:Nat
 At:Option Addr
 ct:Nat
 tos:List KPl
 Ae:Option Addr
 ce:Nat
 e:List KE
 Ag:Option Addr
 cg:Nat
 g:List KG
 Al:Option Addr
 cl:Nat
 l:List KP
structure KG where
 kind:Nat
 cond:KE
 c:Int
 item:Nat
 dst:KPl
 time:KE
 Ab:Option Addr
 cb:Nat
 body:List KP
end
instance:Inhabited KE:=⟨⟨0,0,0,0,0,none,0,[]⟩⟩
instance:Inhabited KPl:=⟨⟨0,none,0,[]⟩⟩
instance:Inhabited KP:=⟨⟨0,0,0,0,none,0,[],none,0,[],none,0,[],none,0,[]⟩⟩
instance:Inhabited KG:=⟨⟨0,default,0,0,default,default,none,0,[]⟩⟩
def KE.cells (e:KE):Array Value:=#[.int .u8 e.kind,.int .u8 e.oper,.int .u8 e.tk,.int .i32 e.n,.int .i64 e.v,.slice e.A e.l.length e.c]
def KPl.cells (p:KPl):Array Value:=#[.int .i64 p.v,.slice p.A p.l.length p.c]
def KP.cells (p:KP):Array Value:=#[.int .u8 p.kind,.int .i64 p.c,.int .i64 p.v,.int .u8 p.item,.slice p.At p.tos.length p.ct,.slice p.Ae p.e.length p.ce,.slice p.Ag p.g.length p.cg,.slice p.Al p.l.length p.cl]
def KG.row (g:KG):List Value:=.int .u8 g.kind :: g.cond.cells.toList++(.int .i64 g.c :: .int .u8 g.item :: g.dst.cells.toList++(g.time.cells.toList++[.slice g.Ab g.body.length g.cb]))
def KG.cells (g:KG):Array Value:=#[.int .u8 g.kind,.agg g.cond.cells,.int .i64 g.c,.int .u8 g.item,.agg g.dst.cells,.agg g.time.cells,.slice g.Ab g.body.length g.cb]
def ZgE (l:List KE):List Value:=l.flatMap fun e=>e.cells.toList
def kplsC (l:List KPl):List Value:=l.flatMap fun p=>p.cells.toList
def Zpi (l:List KP):List Value:=l.flatMap fun p=>p.cells.toList
def kgsC (l:List KG):List Value:=l.flatMap KG.row
mutual
def KE.all (P:KE→Prop):KE→Prop
 | ⟨k,o,t,n,v,A,c,l⟩=>P ⟨k,o,t,n,v,A,c,l⟩∧ZhK P l
def ZhK (P:KE→Prop):List KE→Prop
 | []=>True
 | e :: l=>e.all P∧ZhK P l
end
theorem ZgF {P:KE→Prop}:∀ {l:List KE},ZhK P l ↔ ∀ e∈l,e.all P
 | []=>by simp [ZhK]
 | e :: l=>by simp [ZhK,ZgF (l:=l)]
theorem KE.all_iff {P:KE→Prop} {e:KE}:e.all P ↔ P e∧∀ x∈e.l,x.all P:=by
 obtain ⟨k,o,t,n,v,A,c,l⟩:=e;rw [KE.all,ZgF]
theorem KE.size_lt {e x:KE} (h:x∈e.l):SizeOf.sizeOf x < SizeOf.sizeOf e:=by
 obtain ⟨k,o,t,n,v,A,c,l⟩:=e;have:=List.sizeOf_lt_of_mem h;simp at this ⊢
 omega
theorem KE.ind {Q:KE→Prop} (h:∀ e,(∀ x∈e.l,Q x)→Q e):∀ e,Q e:=by
 intro e
 have:∀ n,∀ e:KE,SizeOf.sizeOf e≤n→Q e:=by
  intro n
  induction n with
  | zero =>
    intro e he;exact h e fun x hx=>absurd (KE.size_lt hx) (by omega)
  | succ n ih =>
    intro e he;exact h e fun x hx=>ih x (by have:=KE.size_lt hx; omega)
 exact this _ e (Nat.le_refl _)
theorem KE.all_imp {P Q:KE→Prop} (h:∀ e,P e→Q e) (e:KE):e.all P→e.all Q:=by
 induction e using KE.ind with
 | h e ih =>
   rw [KE.all_iff,KE.all_iff]
   exact fun ⟨h1,h2⟩=>⟨h e h1,fun x hx=>ih x hx (h2 x hx)⟩
mutual
def KP.all (P:KP→Prop):KP→Prop
 | ⟨kind,c,v,item,At,ct,tos,Ae,ce,e,Ag,cg,g,Al,cl,l⟩=>P ⟨kind,c,v,item,At,ct,tos,Ae,ce,e,Ag,cg,g,Al,cl,l⟩∧ZhJ P g∧ZgC P l
def KG.all (P:KP→Prop):KG→Prop
 | ⟨_,_,_,_,_,_,_,_,body⟩=>ZgC P body
def ZhJ (P:KP→Prop):List KG→Prop
 | []=>True
 | g :: l=>g.all P∧ZhJ P l
def ZgC (P:KP→Prop):List KP→Prop
 | []=>True
 | p :: l=>p.all P∧ZgC P l
end
theorem ZeI {P:KP→Prop}:∀ {l:List KP},ZgC P l ↔ ∀ p∈l,p.all P
 | []=>by simp [ZgC]
 | e :: l=>by simp [ZgC,ZeI (l:=l)]
theorem KG.all_iff {P:KP→Prop} {g:KG}:g.all P ↔ ∀ p∈g.body,p.all P:=by
 obtain ⟨_,_,_,_,_,_,_,_,body⟩:=g;rw [KG.all,ZeI]
theorem ZgD {P:KP→Prop}:∀ {l:List KG},ZhJ P l ↔ ∀ g∈l,∀ p∈g.body,p.all P
 | []=>by simp [ZhJ]
 | e :: l=>by simp [ZhJ,ZgD (l:=l),KG.all_iff]
theorem KP.all_iff {P:KP→Prop} {p:KP}:p.all P ↔ P p∧(∀ g∈p.g,∀ x∈g.body,x.all P)∧∀ x∈p.l,x.all P:=by
 obtain ⟨kind,c,v,item,At,ct,tos,Ae,ce,e,Ag,cg,g,Al,cl,l⟩:=p;rw [KP.all,ZgD,ZeI]
theorem KP.size_lt {p x:KP} (h:x∈p.l):SizeOf.sizeOf x < SizeOf.sizeOf p:=by
 obtain ⟨kind,c,v,item,At,ct,tos,Ae,ce,e,Ag,cg,g,Al,cl,l⟩:=p;have:=List.sizeOf_lt_of_mem h;simp at this ⊢
 omega
theorem KP.size_guard {p x:KP} {g:KG} (hg:g∈p.g) (h:x∈g.body):SizeOf.sizeOf x < SizeOf.sizeOf p:=by
 obtain ⟨kind,c,v,item,At,ct,tos,Ae,ce,e,Ag,cg,gs,Al,cl,l⟩:=p;obtain ⟨_,_,_,_,_,_,_,_,body⟩:=g;have h1:=List.sizeOf_lt_of_mem hg;have h2:=List.sizeOf_lt_of_mem h;simp at h1 h2 ⊢
 omega
theorem KP.ind {Q:KP→Prop} (h:∀ p,(∀ g∈p.g,∀ x∈g.body,Q x)→(∀ x∈p.l,Q x)→Q p):∀ p,Q p:=by
 intro p
 have:∀ n,∀ p:KP,SizeOf.sizeOf p≤n→Q p:=by
  intro n
  induction n with
  | zero =>
    intro p hp;exact h p (fun g hg x hx=>absurd (KP.size_guard hg hx) (by omega)) fun x hx=>absurd (KP.size_lt hx) (by omega)
  | succ n ih =>
    intro p hp;exact h p (fun g hg x hx=>ih x (by have:=KP.size_guard hg hx; omega)) fun x hx=>ih x (by have:=KP.size_lt hx; omega)
 exact this _ p (Nat.le_refl _)
theorem KP.all_imp {P Q:KP→Prop} (h:∀ p,P p→Q p) (p:KP):p.all P→p.all Q:=by
 induction p using KP.ind with
 | h p ih1 ih2 =>
   rw [KP.all_iff,KP.all_iff]
   exact fun ⟨h1,h2,h3⟩=>⟨h p h1,fun g hg x hx=>ih1 g hg x hx (h2 g hg x hx),fun x hx=>ih2 x hx (h3 x hx)⟩
def Zy (a:Int):Prop:=-9223372036854775808≤a∧a≤9223372036854775807
def ZfO (a:Int):Prop:=-2147483648≤a∧a≤2147483647
def ZB {α:Type} (l:List α):Prop:=l.length≤140737488355328
def KE.One (w:World) (B:Nat) (e:KE):Prop :=
 (e.kind≤255∧e.oper≤255∧e.tk≤255∧ZfO e.n∧Zy e.v∧ZB e.l)∧Zo w B 6 e.A e.l.length (ZgE e.l)
def KE.In (w:World) (B:Nat) (e:KE):Prop:=e.all (KE.One w B)
def Zbm (w:World) (B:Nat) (A:Option Addr) (l:List KE):Prop:=ZB l∧Zo w B 6 A l.length (ZgE l)∧∀ e∈l,e.In w B
def KPl.In (w:World) (B:Nat) (p:KPl):Prop:=Zy p.v∧Zbm w B p.A p.l
def ZcN (w:World) (B:Nat) (A:Option Addr) (l:List KPl):Prop:=ZB l∧Zo w B 2 A l.length (kplsC l)∧∀ p∈l,p.In w B
def KG.One (w:World) (B:Nat) (g:KG):Prop :=
 (g.kind≤255∧Zy g.c∧g.item≤255∧ZB g.body)∧g.cond.In w B∧g.dst.In w B∧g.time.In w B∧Zo w B 8 g.Ab g.body.length (Zpi g.body)
def KP.One (w:World) (B:Nat) (p:KP):Prop :=
 (p.kind≤255∧Zy p.c∧Zy p.v∧p.item≤255∧ZB p.g∧ZB p.l)∧ZcN w B p.At p.tos∧Zbm w B p.Ae p.e ∧
  (Zo w B 18 p.Ag p.g.length (kgsC p.g)∧∀ g∈p.g,g.One w B)∧Zo w B 8 p.Al p.l.length (Zpi p.l)
def KP.In (w:World) (B:Nat) (p:KP):Prop:=p.all (KP.One w B)
section
variable {w w':World} {B B':Nat}
theorem KE.One.below {e:KE} (h:e.One w B) (hb:Below B w w'):e.One w' B:=⟨h.1,h.2.below hb⟩
theorem KE.One.more {e:KE} (h:e.One w B) (hB:B≤B'):e.One w B':=⟨h.1,h.2.more hB⟩
theorem KE.In.below {e:KE} (h:e.In w B) (hb:Below B w w'):e.In w' B:=KE.all_imp (fun _ h=>h.below hb) e h
theorem KE.In.more {e:KE} (h:e.In w B) (hB:B≤B'):e.In w B':=KE.all_imp (fun _ h=>h.more hB) e h
theorem KE.In.part {e x:KE} (h:e.In w B) (hx:x∈e.l):x.In w B:=(KE.all_iff.1 h).2 x hx
theorem KE.In.one {e:KE} (h:e.In w B):e.One w B:=(KE.all_iff.1 h).1
theorem KE.In.parts {e:KE} (h:e.In w B):Zbm w B e.A e.l:=⟨h.one.1.2.2.2.2.2,h.one.2,fun _ hx=>h.part hx⟩
theorem Zbm.below {A:Option Addr} {l:List KE} (h:Zbm w B A l) (hb:Below B w w'):Zbm w' B A l:=⟨h.1,h.2.1.below hb,fun e he=>(h.2.2 e he).below hb⟩
theorem Zbm.more {A:Option Addr} {l:List KE} (h:Zbm w B A l) (hB:B≤B'):Zbm w B' A l:=⟨h.1,h.2.1.more hB,fun e he=>(h.2.2 e he).more hB⟩
theorem KPl.In.below {p:KPl} (h:p.In w B) (hb:Below B w w'):p.In w' B:=⟨h.1,h.2.below hb⟩
theorem KPl.In.more {p:KPl} (h:p.In w B) (hB:B≤B'):p.In w B':=⟨h.1,h.2.more hB⟩
theorem ZcN.below {A:Option Addr} {l:List KPl} (h:ZcN w B A l) (hb:Below B w w'):ZcN w' B A l:=⟨h.1,h.2.1.below hb,fun e he=>(h.2.2 e he).below hb⟩
theorem ZcN.more {A:Option Addr} {l:List KPl} (h:ZcN w B A l) (hB:B≤B'):ZcN w B' A l:=⟨h.1,h.2.1.more hB,fun e he=>(h.2.2 e he).more hB⟩
theorem KG.One.below {g:KG} (h:g.One w B) (hb:Below B w w'):g.One w' B:=⟨h.1,h.2.1.below hb,h.2.2.1.below hb,h.2.2.2.1.below hb,h.2.2.2.2.below hb⟩
theorem KG.One.more {g:KG} (h:g.One w B) (hB:B≤B'):g.One w B':=⟨h.1,h.2.1.more hB,h.2.2.1.more hB,h.2.2.2.1.more hB,h.2.2.2.2.more hB⟩
theorem KP.One.below {p:KP} (h:p.One w B) (hb:Below B w w'):p.One w' B :=
 ⟨h.1,h.2.1.below hb,h.2.2.1.below hb,⟨h.2.2.2.1.1.below hb,fun g hg=>(h.2.2.2.1.2 g hg).below hb⟩,h.2.2.2.2.below hb⟩
theorem KP.One.more {p:KP} (h:p.One w B) (hB:B≤B'):p.One w B' :=
 ⟨h.1,h.2.1.more hB,h.2.2.1.more hB,⟨h.2.2.2.1.1.more hB,fun g hg=>(h.2.2.2.1.2 g hg).more hB⟩,h.2.2.2.2.more hB⟩
theorem KP.In.below {p:KP} (h:p.In w B) (hb:Below B w w'):p.In w' B:=KP.all_imp (fun _ h=>h.below hb) p h
theorem KP.In.more {p:KP} (h:p.In w B) (hB:B≤B'):p.In w B':=KP.all_imp (fun _ h=>h.more hB) p h
theorem KP.In.one {p:KP} (h:p.In w B):p.One w B:=(KP.all_iff.1 h).1
theorem KP.In.part {p x:KP} (h:p.In w B) (hx:x∈p.l):x.In w B:=(KP.all_iff.1 h).2.2 x hx
theorem KP.In.guard {p x:KP} {g:KG} (h:p.In w B) (hg:g∈p.g) (hx:x∈g.body):x.In w B:=(KP.all_iff.1 h).2.1 g hg x hx
end
theorem ZdZ {α:Type} {f:α→List Value} {size:Nat} (hf:∀ x,(f x).length=size):∀ {l:List α} {k:Nat} {x:α},l[k]? = some x→∀ j,j < size→(l.flatMap f)[k * size+j]? = (f x)[j]?
 | [],k,x,h,_,_=>by simp at h
 | y :: r,0,x,h,j,hj=>by
   simp at h; subst h;rw [List.flatMap_cons,List.getElem?_append_left (by rw [hf]; omega)]
   simp
 | y :: r,k+1,x,h,j,hj=>by
   rw [List.flatMap_cons,List.getElem?_append_right (by rw [hf,Nat.succ_mul]; omega),hf,show (k+1) * size+j - size=k * size+j by rw [Nat.succ_mul]; omega];exact ZdZ hf (l:=r) (by simpa using h) j hj
theorem Zeb {α:Type} {f:α→List Value} {size:Nat} (hf:∀ x,(f x).length=size) (hs:0 < size) {w:World} {B:Nat} {A:Option Addr} {l:List α} (h:Zo w B size A l.length (l.flatMap f)) {k:Nat} (hk:k < l.length) :
  ∃ b off x,A=some ⟨b,off,none⟩∧b < B∧l[k]? = some x∧x∈l∧∀ j u,(f x)[j]? = some u→w.cell? ⟨b,off+k * size+j,none⟩=some u:=by
 obtain ⟨b,off,rfl,hb,hc⟩:=h.addr (by omega) hs;have hx:l[k]? = some l[k]:=List.getElem?_eq_getElem hk;refine ⟨b,off,l[k],rfl,hb,hx,List.getElem_mem hk,fun j u hu=>?_⟩
 have hj:j < size:=by have:=(List.getElem?_eq_some_iff.1 hu).1; rwa [hf] at this
 have:=hc (k * size+j) u (by rw [ZdZ hf hx j hj]; exact hu)
 rwa [Nat.add_assoc]
theorem KE.cells_len (e:KE):e.cells.toList.length=6:=rfl
theorem KPl.cells_len (p:KPl):p.cells.toList.length=2:=rfl
theorem KP.cells_len (p:KP):p.cells.toList.length=8:=rfl
theorem KG.row_len (g:KG):g.row.length=18:=rfl
theorem Zln {w:World} {B:Nat} {A:Option Addr} {l:List KE} (h:Zbm w B A l) {k:Nat} (hk:k < l.length) :
  ∃ b off x,A=some ⟨b,off,none⟩∧b < B∧l[k]? = some x∧x.In w B∧∀ j u,x.cells[j]? = some u→w.cell? ⟨b,off+k * 6+j,none⟩=some u:=by
 obtain ⟨b,off,x,h1,h2,h3,h4,h5⟩:=Zeb KE.cells_len (by decide) h.2.1 hk;exact ⟨b,off,x,h1,h2,h3,h.2.2 x h4,fun j u hu=>h5 j u (by rw [Array.getElem?_toList]; exact hu)⟩
end
def ZaT (k:Nat):Bool:=decide (1≤k∧k≤3)
def Zq (e:KE):Bool :=
 match e.kind with
 | 1=>decide (e.l.length=0∧e.oper=0∧e.tk=0∧e.v=0)
 | 2=>decide (e.l.length=0∧e.oper=0∧e.tk=0∧e.n=0∧0≤e.v∧e.v < 256)
 | 3=>decide (e.l.length=1∧e.oper=0∧e.tk=0∧e.n=0∧0≤e.v∧e.v < 256)
 | 4=>decide (e.l.length=1∧(23≤e.oper∧e.oper≤26)∧e.tk=0∧e.n=0∧e.v=0)
 | 5=>decide (e.l.length=2∧(1≤e.oper∧e.oper≤22)∧e.tk=0∧e.n=0∧e.v=0)
 | 6=>decide (e.l.length=1∧e.oper=0∧(1≤e.tk∧e.tk≤3)∧e.n=0∧e.v=0)
 | _=>false
mutual
def ZU (inside left:Nat):KE→Option Nat
 | ⟨k,o,t,n,v,A,c,l⟩=>if decide (32≤inside) || decide (left=0) || !Zq ⟨k,o,t,n,v,A,c,l⟩ then none else Z8 (inside+1) (left - 1) l
def Z8 (inside left:Nat):List KE→Option Nat
 | []=>some left
 | e :: l=>match ZU inside left e with
   | none=>none
   | some left'=>Z8 inside left' l
end
theorem Zci (inside left:Nat) (e:KE):ZU inside left e=if decide (32≤inside) || decide (left=0) || !Zq e then none else Z8 (inside+1) (left - 1) e.l:=by
 obtain ⟨k,o,t,n,v,A,c,l⟩:=e;rw [ZU]
def Zaa (e:KE):Bool:=(ZU 0 256 e).isSome
theorem Zgu:∀ {l:List KE} {inside left r:Nat},Z8 inside left l=some r→∀ e∈l,∃ a b,ZU inside a e=some b
 | [],_,_,_,_,e,he=>by cases he
 | x :: l,inside,left,r,h,e,he=>by
   rw [Z8] at h
   cases hx:ZU inside left x with
   | none=>rw [hx] at h; cases h
   | some y =>
     rw [hx] at h
     rcases List.mem_cons.1 he with rfl | he
     ·exact ⟨_,_,hx⟩
     ·exact Zgu h e he
theorem ZfA (e:KE):∀ {inside left r:Nat},ZU inside left e=some r→e.all (fun x=>Zq x=true):=by
 induction e using KE.ind with
 | h e ih =>
   intro inside left r h;rw [Zci] at h
   split at h
   ·cases h
   ·rename_i hc;rw [KE.all_iff];refine ⟨by cases hf:Zq e with | true=>rfl | false=>rw [hf] at hc; simp at hc,fun x hx=>?_⟩;obtain ⟨a,b,hab⟩:=Zgu h x hx;exact ih x hx hab
theorem Zdq {e:KE} (h:Zaa e=true):e.all (fun x=>Zq x=true):=by
 unfold Zaa at h
 cases hr:ZU 0 256 e with
 | none=>rw [hr] at h; cases h
 | some r=>exact ZfA e hr
structure ZZ where
 kind:Nat
 dim:Int
mutual
def Zt (vs:List ZZ):KE→Nat→Bool
 | ⟨k,o,t,n,v,_,_,l⟩,q =>
   match k with
   | 1=>q == 1 || (q == 2 && decide (0≤n∧n≤255)) || (q == 3 && decide (n=0∨n=1))
   | 2=>match vs[v.toNat]? with
     | some x=>decide (x.dim=0) && x.kind == q
     | none=>false
   | 3=>match vs[v.toNat]? with
     | some x=>decide (0 < x.dim) && x.kind == q && ZaE vs l 0 1
     | none=>false
   | 6=>t == q && (ZaE vs l 0 1 || ZaE vs l 0 2 || ZaE vs l 0 3)
   | 4=>if o=26 then q == 3 && ZaE vs l 0 3 else q == 1 && ZaE vs l 0 1
   | _ =>
     if o≤13 then q == 1 && (ZaE vs l 0 1 && ZaE vs l 1 1)
     else if q≠3 then false
     else if o=14∨o=15 then (ZaE vs l 0 1 && ZaE vs l 1 1) || (ZaE vs l 0 2 && ZaE vs l 1 2) || (ZaE vs l 0 3 && ZaE vs l 1 3)
     else if o≤19 then (ZaE vs l 0 1 && ZaE vs l 1 1) || (ZaE vs l 0 2 && ZaE vs l 1 2)
     else if o=22 then ZaE vs l 0 1 && ZaE vs l 1 1
     else ZaE vs l 0 3 && ZaE vs l 1 3
def ZaE (vs:List ZZ):List KE→Nat→Nat→Bool
 | [],_,_=>false
 | e :: _,0,q=>Zt vs e q
 | _ :: l,i+1,q=>ZaE vs l i q
end
def Z6 (vs:List ZZ) (e:KE) (q:Nat):Bool:=Zaa e && Zt vs e q
def Zai (vs:List ZZ) (p:KPl) (q:Nat):Bool :=
 if p.v < 0 then false else match vs[p.v.toNat]? with
 | none=>false
 | some x=>x.kind == q && (if x.dim=0 then decide (p.l.length=0) else match p.l with
   | [e]=>Z6 vs e 1
   | _=>false)
def ZS (nc:Nat) (c:Int) (item:Nat) (no:Int):Bool:=decide (0≤c∧c < nc∧c≠no) && ZaT item && (decide (1 < c) || item == 1)
def Zbg (vs:List ZZ) (nc:Nat) (c:Int) (item:Nat) (p:KPl):Bool:=ZS nc c item 1 && Zai vs p item
def ZdW (e:KE):Bool:=decide (e.kind=0∧e.oper=0∧e.tk=0∧e.n=0∧e.v=0∧e.l.length=0)
def ZhD (g:KG):Bool:=decide (g.c=0∧g.item=0∧g.dst.v=0∧g.dst.l.length=0)
def ZR (vs:List ZZ) (nc:Nat) (choice:Bool) (g:KG):Bool :=
 decide (g.body.length=1) && Z6 vs g.cond 3 &&
 match g.kind with
 | 1=>choice && ZdW g.time && ZhD g
 | 2=>!choice && ZdW g.time && ZhD g
 | 3=>!choice && ZdW g.time && Zbg vs nc g.c g.item g.dst
 | 4=>!choice && ZhD g && Z6 vs g.time 1
 | _=>false
def Za3 (p:KP) (ch v:Bool) (t0 t1 e0 e1 g0 g1 l0 l1:Nat):Bool :=
 (ch || decide (p.c=0∧p.item=0)) && (v || decide (p.v=0)) && decide (t0≤p.tos.length∧p.tos.length≤t1) && decide (e0≤p.e.length∧p.e.length≤e1) &&
  decide (g0≤p.g.length∧p.g.length≤g1) && decide (l0≤p.l.length∧p.l.length≤l1)
def Zab (vs:List ZZ):List KPl→List KE→Bool
 | [],[]=>true
 | t :: ts,e :: es=>(if t.v < 0 then false else match vs[t.v.toNat]? with
    | none=>false
    | some x=>Zai vs t x.kind && Z6 vs e x.kind) && Zab vs ts es
 | _,_=>false
def Zef (vs:List ZZ) (l:List KPl) (q:Nat):Bool:=match l[0]? with
 | some p=>Zai vs p q
 | none=>false
def ZdJ (vs:List ZZ) (nc:Nat) (c:Int) (item:Nat) (l:List KPl):Bool:=match l[0]? with
 | some p=>Zbg vs nc c item p
 | none=>false
def ZbJ (vs:List ZZ) (l:List KE) (q:Nat):Bool:=match l[0]? with
 | some e=>Z6 vs e q
 | none=>false
def ZW (vs:List ZZ) (nc:Nat) (p:KP):Bool :=
 match p.kind with
 | 1=>Za3 p false false 0 0 0 0 0 0 0 0
 | 2=>Za3 p false false 0 0 0 0 0 0 0 0
 | 3=>Za3 p false true 0 0 0 0 0 0 0 0 && decide (0≤p.v∧p.v < vs.length)
 | 4=>Za3 p false false 1 8 1 8 0 0 0 0 && decide (p.tos.length=p.e.length) && Zab vs p.tos p.e
 | 5=>Za3 p true false 1 1 0 0 0 0 0 0 && ZdJ vs nc p.c p.item p.tos
 | 6=>Za3 p true false 0 0 1 1 0 0 0 0 && ZS nc p.c p.item 0 && ZbJ vs p.e p.item
 | 7=>Za3 p false false 1 1 0 0 0 0 0 0 && Zef vs p.tos 1
 | 8=>Za3 p false false 0 0 1 1 0 0 0 0 && ZbJ vs p.e 1
 | 9=>Za3 p false false 0 0 0 0 0 0 0 2048
 | 10=>Za3 p false false 0 0 0 0 0 0 0 16
 | 11=>Za3 p false false 0 0 0 0 0 0 2 2
 | 12=>Za3 p false false 0 0 0 0 0 16 0 0 && p.g.all (ZR vs nc true)
 | 13=>Za3 p false false 0 0 1 1 0 0 1 1 && ZbJ vs p.e 3
 | 14=>Za3 p false false 0 0 0 0 0 16 0 0 && p.g.all (ZR vs nc false)
 | 15=>Za3 p false false 0 0 0 0 0 16 0 0 && p.g.all (ZR vs nc false)
 | _=>false
mutual
def Zx (vs:List ZZ) (nc:Nat) (deep:Nat) (high:Bool) (left:Nat):KP→Option Nat
 | ⟨kind,c,v,item,At,ct,tos,Ae,ce,e,Ag,cg,g,Al,cl,l⟩ =>
   if decide (32≤deep) || decide (left=0) || !ZW vs nc ⟨kind,c,v,item,At,ct,tos,Ae,ce,e,Ag,cg,g,Al,cl,l⟩ || (high && kind == 11) then none
   else match Zn vs nc (deep+1) high (kind == 11) (left - 1) l with
    | none=>none
    | some m=>ZaF vs nc (deep+1) high m g
def Zn (vs:List ZZ) (nc:Nat) (deep:Nat) (high first:Bool) (left:Nat):List KP→Option Nat
 | []=>some left
 | p :: l=>match Zx vs nc deep (high || first) left p with
   | none=>none
   | some m=>Zn vs nc deep high false m l
def ZaF (vs:List ZZ) (nc:Nat) (deep:Nat) (high:Bool) (left:Nat):List KG→Option Nat
 | []=>some left
 | g :: l=>match Zfz vs nc deep high left g with
   | none=>none
   | some m=>ZaF vs nc deep high m l
def Zfz (vs:List ZZ) (nc:Nat) (deep:Nat) (high:Bool) (left:Nat):KG→Option Nat
 | ⟨_,_,_,_,_,_,_,_,body⟩=>match body with
   | []=>none
   | p :: _=>Zx vs nc deep high left p
end
structure KK where
 Av:Option Addr
 cv:Nat
 vars:List ZZ
 Ac:Option Addr
 cc:Nat
 chans:List Nat
 root:KP
 Ap:Option Addr
 cp:Nat
 procs:List Int
def Zaw (k:KK):Bool :=
 decide (k.procs.length=0) || (decide (k.procs.Nodup) && k.procs.all (fun n=>decide (0≤n∧n < 8)) && k.root.kind == 10 && decide (k.root.l.length=k.procs.length))
def Zb9 (i h:Nat):Bool:=h == (if i=0 then 1 else if i=1 then 2 else 0)
def Zel:Nat→List Nat→Bool
 | _,[]=>true
 | i,h :: l=>Zb9 i h && Zel (i+1) l
def Zfd (k:KK):Bool :=
 decide (k.vars.length≤256∧2≤k.chans.length∧k.chans.length≤64) && Zaw k && k.vars.all (fun x=>ZaT x.kind && decide (0≤x.dim∧x.dim≤64)) && Zel 0 k.chans &&
  (Zx k.vars k.chans.length 0 false 2048 k.root).isSome
section
section
variable {H:Type} {enc:TypeId×Value→H} {P:Program} {w:World} {base:Nat} {sp:Nat→Bool} {held:Bool} {fuel:Nat} {t:TypeId} {cs:List Value} {y:DataW H×List MemPlace}
theorem ZD {k:IntKind} (ht:P.underlying t=some (.int k)) (h:DataW.trod enc P w base sp held fuel t cs=some y):∃ n,cs=[.int k n]∧(Lit.int k n).wf=true:=by
 cases fuel with
 | zero=>cases h
 | succ f =>
   simp only [DataW.trod,ht] at h
   split at h
   all_goals first
    | (cases h; done)
    | (rename_i e; cases e; done)
    | (rename_i e; injection e with e; injection e with e; subst e
       split at h
       ·rename_i hk;obtain ⟨rfl,hw⟩:=hk;exact ⟨_,rfl,hw⟩
       ·cases h)
theorem Zbk {α:Type} {f:Nat→Option α}:∀ {n:Nat} {l:List α},(List.range n).mapM f=some l→l.length=n∧∀ i,i < n→f i=l[i]?:=by
 intro n
 induction n with
 | zero=>intro l h; simp at h; subst h; exact ⟨rfl,fun i hi=>by omega⟩
 | succ n ih =>
   intro l h;rw [List.range_succ,List.mapM_append] at h
   cases h1:(List.range n).mapM f with
   | none=>rw [h1] at h; cases h
   | some l1 =>
     rw [h1] at h
     cases h2:f n with
     | none=>simp [h2] at h
     | some z =>
       simp [h2] at h
       subst h;obtain ⟨hl,hi⟩:=ih h1;refine ⟨by simp [hl],fun i hi'=>?_⟩
       rcases Nat.lt_or_ge i n with hlt | hge
       ·rw [List.getElem?_append_left (by omega)]; exact hi i hlt
       ·obtain rfl:i=n:=by omega
        rw [List.getElem?_append_right (by omega),hl]; simpa using h2
theorem Zge {e:TypeId} (ht:P.underlying t=some (.slice e)) (h:DataW.trod enc P w base sp held fuel t cs=some y) :
  cs=[.slice none 0 0]∨∃ a len cap f,cs=[.slice (some a) len cap]∧len≤cap∧cap≤maxLen ∧
   ∀ i,i < len→∃ c z,w.cells? base (a.add (i * P.cellsOf e)) (P.cellsOf e)=some c∧DataW.trod enc P w base sp held f e c=some z:=by
 cases fuel with
 | zero=>cases h
 | succ f =>
   simp only [DataW.trod,ht] at h
   split at h
   all_goals first
    | (cases h; done)
    | (rename_i e; cases e; done)
    | (rename_i e; injection e with e; injection e with e; subst e; exact .inl rfl)
    | (rename_i e; injection e with e; injection e with e; subst e
       split at h
       ·rename_i hk;refine .inr ⟨_,_,_,f,rfl,hk.2.1,hk.2.2,?_⟩
        cases h1:(List.range _).mapM (fun i=>(w.cells? base (Addr.add _ (i * P.cellsOf _)) (P.cellsOf _)).bind (DataW.trod enc P w base sp held f _)) with
        | none=>rw [h1] at h; cases h
        | some l =>
          intro i hi;have h2:=(Zbk h1).2 i hi;have hl:=(Zbk h1).1;rw [List.getElem?_eq_getElem (by omega)] at h2;obtain ⟨c,hc,hz⟩:=Option.bind_eq_some_iff.1 h2;exact ⟨c,_,hc,hz⟩
       ·cases h)
theorem ZlT {a:Addr} {n:Nat} {c:List Value} (h:w.cells? base a n=some c):c.length=n∧∀ j u,c[j]? = some u→w.cell? (a.add j)=some u:=by
 obtain ⟨_,hl,hc⟩:=World.cells?_some h;refine ⟨hl,fun j u hu=>?_⟩;have hj:=(List.getElem?_eq_some_iff.1 hu).1;rw [hc j (by omega),hu]
end
end
section
section
variable {P:Program} {H:Type} {enc:TypeId×Value→H} {w:World} {base:Nat} {sp:Nat→Bool} {held:Bool} {fuel:Nat} {t:TypeId} {cs:List Value} {y:DataW H×List MemPlace}
def ZbU (P:Program) (t:TypeId) (d:DataW H):Prop:=∀ n∈d.weights P t,n≤reachBytes
theorem ZbU.elem {e:TypeId} {elems spare:List (DataW H)} (ht:P.underlying t=some (.slice e)) (h:ZbU P t (.slice elems spare)) {i:Nat} {d:DataW H} (hd:elems[i]? = some d):ZbU P e d:=by
 intro n hn;refine h n ?_;simp only [DataW.weights,ht];refine List.mem_cons_of_mem _ (List.mem_append_left _ ?_)
 have:∀ (l:List (DataW H)) (i:Nat),l[i]? = some d→n∈DataW.weightsAll P e l:=by
  intro l
  induction l with
  | nil=>intro i hi; simp at hi
  | cons x r ih =>
    intro i hi;rw [DataW.weightsAll]
    cases i with
    | zero=>simp at hi; subst hi; exact List.mem_append_left _ hn
    | succ i=>exact List.mem_append_right _ (ih i (by simpa using hi))
 exact this elems i hd
theorem ZbU.part {fs:Array Field} {parts:List (DataW H)} (ht:P.underlying t=some (.struct fs)) (h:ZbU P t (.agg parts)) {j:Nat} {x:Field} {d:DataW H} (hx:fs.toList[j]? = some x) (hd:parts[j]? = some d):ZbU P x.type d:=by
 intro n hn;refine h n ?_;simp only [DataW.weights,ht];exact DataW.weights_mem_each (j:=j) (by rw [List.getElem?_map,hx]; rfl) hd n hn
theorem ZbU.count {e:TypeId} {elems spare:List (DataW H)} (ht:P.underlying t=some (.slice e)) (h:ZbU P t (.slice elems spare)):elems.length * P.bytesOf e≤reachBytes:=by
 have h1:=h ((elems.length+spare.length) * P.bytesOf e) (by simp [DataW.weights,ht]);have h2:elems.length * P.bytesOf e≤(elems.length+spare.length) * P.bytesOf e:=Nat.mul_le_mul_right _ (by omega)
 omega
theorem ZbU.arg {ts:List TypeId} {ds:List (DataW H)} (h:(DataW.weightsEach P ts ds).all (·≤reachBytes)=true) {j:Nat} {d:DataW H} (ht:ts[j]? = some t) (hd:ds[j]? = some d):ZbU P t d:=by
 intro n hn;have:=List.all_eq_true.1 h n (DataW.weights_mem_each ht hd n hn)
 simpa using this
theorem Zjb {cells:Nat→List Value} {size:Nat}:∀ {n:Nat},(∀ i,i < n→(cells i).length=size) →
  ((List.range n).flatMap cells).length=n * size∧∀ (j:Nat) (u:Value),((List.range n).flatMap cells)[j]? = some u→∃ i r,i < n∧j=i * size+r∧(cells i)[r]? = some u
 | 0,_=>⟨by simp,fun j u h=>by simp at h⟩
 | n+1,hl=>by
   obtain ⟨h1,h2⟩:=Zjb (n:=n) (fun i hi=>hl i (by omega));rw [List.range_succ,List.flatMap_append]
   have e:List.flatMap cells [n]=cells n:=by simp
   rw [e];refine ⟨by rw [List.length_append,h1,hl n (by omega),Nat.succ_mul],fun j u h=>?_⟩
   rcases Nat.lt_or_ge j (n * size) with hlt | hge
   ·rw [List.getElem?_append_left (by omega)] at h;obtain ⟨i,r,hi,hj,hu⟩:=h2 j u h;exact ⟨i,r,by omega,hj,hu⟩
   ·rw [List.getElem?_append_right (by omega),h1] at h;exact ⟨n,j - n * size,by omega,by omega,h⟩
theorem Zo.of_rows {B size n:Nat} {a:Addr} {cells:Nat→List Value} (hl:∀ i,i < n→(cells i).length=size) (hc:∀ i,i < n→∀ j u,(cells i)[j]? = some u→w.cell? ((a.add (i * size)).add j)=some u)
  (hb:0 < n→a.block < B):Zo w B size (some a) n ((List.range n).flatMap cells):=by
 obtain ⟨h1,h2⟩:=Zjb hl;refine ⟨h1,fun hn=>⟨a,rfl,hb hn,fun j u hu=>?_⟩⟩;obtain ⟨i,r,hi,rfl,hu'⟩:=h2 j u hu;rw [← ZgO];exact hc i hi r u hu'
end
end
section
open Go.ChangeShapes Go.WideShapes Go.ChangeAt Go.RowKit
section
variable {H:Type} {enc:TypeId×Value→H} {P:Program} {w:World} {base:Nat} {sp:Nat→Bool} {held:Bool} {fuel:Nat} {t:TypeId} {cs:List Value} {y:DataW H×List MemPlace}
theorem Zms:reachBytes≤140737488355328:=by decide
theorem ZgT {e:TypeId} (ht:P.underlying t=some (.slice e)) (h:DataW.trod enc P w base sp held fuel t cs=some y) :
  cs=[.slice none 0 0]∨∃ a len cap f elems spare,f < fuel∧cs=[.slice (some a) len cap]∧len≤cap∧cap≤maxLen∧y.1 = .slice elems spare ∧
   ∀ i,i < len→∃ c z,w.cells? base (a.add (i * P.cellsOf e)) (P.cellsOf e)=some c∧DataW.trod enc P w base sp held f e c=some z∧elems[i]? = some z.1:=by
 cases fuel with
 | zero=>cases h
 | succ f =>
   simp only [DataW.trod,ht] at h
   split at h
   all_goals first
    | (cases h; done)
    | (rename_i e; cases e; done)
    | (rename_i e; injection e with e; injection e with e; subst e; exact .inl rfl)
    | (rename_i e; injection e with e; injection e with e; subst e
       split at h
       ·rename_i hk
        cases h1:(List.range _).mapM (fun i=>(w.cells? base (Addr.add _ (i * P.cellsOf _)) (P.cellsOf _)).bind (DataW.trod enc P w base sp held f _)) with
        | none=>rw [h1] at h; cases h
        | some l =>
          rw [h1] at h;simp only [Option.bind_some] at h;obtain ⟨rest,-,hy⟩:=Option.map_eq_some_iff.1 h;refine .inr ⟨_,_,_,f,l.map (·.1),rest.map (·.1),Nat.lt_succ_self _,rfl,hk.2.1,hk.2.2,by rw [← hy],?_⟩;intro i hi;have h2:=(Zbk h1).2 i hi;have hl:=(Zbk h1).1;rw [List.getElem?_eq_getElem (by omega)] at h2;obtain ⟨c,hc,hz⟩:=Option.bind_eq_some_iff.1 h2;exact ⟨c,_,hc,hz,by rw [List.getElem?_map,List.getElem?_eq_getElem (by omega)]; rfl⟩
       ·cases h)
theorem Zav {fs:Array Field} (ht:P.underlying t=some (.struct fs)) (h:DataW.trod enc P w base sp held fuel t cs=some y) :
  ∃ f parts,f < fuel∧cs.length=P.cellsOf t∧y.1 = .agg parts∧∀ (j:Nat) (x:Field),fs.toList[j]? = some x→∃ z,DataW.trod enc P w base sp held f x.type ((cs.drop x.offset).take (P.cellsOf x.type))=some z∧parts[j]? = some z.1:=by
 cases fuel with
 | zero=>cases h
 | succ f =>
   simp only [DataW.trod,ht] at h
   split at h
   ·rename_i hk;obtain ⟨l,h1,hy⟩:=Option.map_eq_some_iff.1 h;refine ⟨f,l.map (·.1),Nat.lt_succ_self _,hk,by rw [← hy],?_⟩;clear h hy;generalize fs.toList=xs at h1
    induction xs generalizing l with
    | nil=>intro j x hx; simp at hx
    | cons x r ih =>
      rw [List.mapM_cons] at h1
      cases h2:DataW.trod enc P w base sp held f x.type ((cs.drop x.offset).take (P.cellsOf x.type)) with
      | none=>rw [h2] at h1; cases h1
      | some z =>
        rw [h2] at h1
        cases h3:List.mapM (fun x:Field=>DataW.trod enc P w base sp held f x.type ((cs.drop x.offset).take (P.cellsOf x.type))) r with
        | none=>rw [h3] at h1; cases h1
        | some l' =>
          rw [h3] at h1
          injection h1 with h1
          subst h1;intro j x' hx'
          cases j with
          | zero=>simp at hx'; subst hx'; exact ⟨z,h2,rfl⟩
          | succ j=>exact ih l' h3 j x' (by simpa using hx')
   ·cases h
theorem open_row {e:TypeId} {α:Type} [Inhabited α] {R:α→Prop} {cells:α→List Value} {size:Nat} (hsz:P.cellsOf e=size) (hpos:0 < size) (hlen:∀ x,(cells x).length=size) (ht:P.underlying t=some (.slice e)) (hb:0 < P.bytesOf e)
  (hone:∀ (f:Nat) (c:List Value) (z:DataW H×List MemPlace),f < fuel→DataW.trod enc P w base sp held f e c=some z→ZbU P e z.1→∃ x,c=cells x∧R x)
  (h:DataW.trod enc P w base sp held fuel t cs=some y) (hw:ZbU P t y.1) :
  ∃ (A:Option Addr) (c:Nat) (xs:List α),cs=[.slice A xs.length c]∧ZB xs∧Zo w w.heap.size size A xs.length (xs.flatMap cells)∧(∀ x∈xs,R x):=by
 rcases ZgT ht h with rfl | ⟨a,m,cap,f,elems,spare,hf,rfl,h3,h4,hy,h5⟩
 ·exact ⟨none,0,[],rfl,by simp [ZB],Zo.none_,by simp⟩
 ·rw [hsz] at h5;rw [hy] at hw
  have hm:m≤elems.length:=by
   rcases Nat.lt_or_ge elems.length m with hlt | hge
   ·obtain ⟨c',z,-,-,he⟩:=h5 elems.length hlt;rw [List.getElem?_eq_none (Nat.le_refl _)] at he
    cases he
   ·exact hge
  have hcount:=hw.count ht
  have h6:∀ i,∃ x:α,i < m→w.cells? base (a.add (i * size)) size=some (cells x)∧R x:=fun i=>by
   by_cases hi:i < m
   ·obtain ⟨c,z,hc,hz,he⟩:=h5 i hi;obtain ⟨x,rfl,hr⟩:=hone f c z hf hz (hw.elem ht he);exact ⟨x,fun _=>⟨hc,hr⟩⟩
   ·exact ⟨default,fun h=>(hi h).elim⟩
  obtain ⟨g,hg⟩:=Classical.axiomOfChoice h6;refine ⟨some a,cap,(List.range m).map g,by simp,?_,?_,?_⟩
  ·have h7:elems.length * 1≤elems.length * P.bytesOf e:=Nat.mul_le_mul_left _ hb;have:=Zms;simp only [ZB,List.length_map,List.length_range]
   omega
  ·have e:((List.range m).map g).flatMap cells=(List.range m).flatMap fun i=>cells (g i):=by simp [List.flatMap_map]
   rw [e];simp only [List.length_map,List.length_range];refine Zo.of_rows (fun i _=>hlen _) (fun i hi j u hu=>?_) (fun hm=>?_)
   ·exact (ZlT (hg i hi).1).2 j u hu
   ·have:=World.cells?_block (hg 0 hm).1 hpos
    rwa [Zdk] at this
  ·intro x hx;obtain ⟨i,hi,rfl⟩:=List.mem_map.1 hx;exact (hg i (List.mem_range.1 hi)).2
theorem ZpZ {a:Int} (h:(Lit.int .i32 a).wf=true):ZfO a:=by
 have:=(Lit.wf_int_iff _ _).1 h
 simp [IntKind.min,IntKind.max,IntKind.signed,IntKind.bits] at this
 unfold ZfO
 omega
theorem ZeZ {a:Int} (h:(Lit.int .i64 a).wf=true):Zy a:=by
 have:=(Lit.wf_int_iff _ _).1 h
 simp [IntKind.min,IntKind.max,IntKind.signed,IntKind.bits] at this
 unfold Zy
 omega
theorem ZgS {a:Int} (h:(Lit.int .u8 a).wf=true):∃ k:Nat,a=k∧k≤255:=by
 have:=(Lit.wf_int_iff _ _).1 h
 simp [IntKind.min,IntKind.max,IntKind.signed,IntKind.bits] at this
 exact ⟨a.toNat,by omega,by omega⟩
theorem fsKE:Tryz.prog.underlying 65=some (.struct #[⟨ "Kind",62,0,false,"","",0⟩,⟨ "Oper",63,1,false,"","",1⟩,⟨ "To",25,2,false,"","",2⟩,⟨ "N",21,3,false,"","",4⟩,⟨ "V",3,4,false,"","",8⟩,⟨ "L",27,5,false,"","",16⟩]):=by kernel_rfl
theorem Zp0:Tryz.prog.underlying 105=some (.struct #[⟨ "V",3,0,false,"","",0⟩,⟨ "Index",27,1,false,"","",8⟩]):=by kernel_rfl
theorem Zp2:Tryz.prog.underlying 109=some (.struct #[⟨ "Kind",107,0,false,"","",0⟩,⟨ "Cond",65,1,false,"","",8⟩,⟨ "C",3,7,false,"","",48⟩,⟨ "Item",25,8,false,"","",56⟩,⟨ "To",105,9,false,"","",64⟩,⟨ "Time",65,11,false,"","",96⟩,⟨ "Body",29,17,false,"","",136⟩]):=by kernel_rfl
theorem Zp1:Tryz.prog.underlying 31=some (.struct #[⟨ "Kind",24,0,false,"","",0⟩,⟨ "C",3,1,false,"","",8⟩,⟨ "V",3,2,false,"","",16⟩,⟨ "Item",25,3,false,"","",24⟩,⟨ "To",26,4,false,"","",32⟩,⟨ "E",27,5,false,"","",56⟩,⟨ "Guards",28,6,false,"","",80⟩,⟨ "L",29,7,false,"","",104⟩]):=by kernel_rfl
theorem fsVar:Tryz.prog.underlying 92=some (.struct #[⟨ "Kind",25,0,false,"","",0⟩,⟨ "Dim",3,1,false,"","",8⟩]):=by kernel_rfl
theorem ZoT:Tryz.prog.underlying 34=some (.struct #[⟨ "Vars",22,0,false,"","",0⟩,⟨ "Chans",23,1,false,"","",24⟩,⟨ "Root",31,2,false,"","",48⟩,⟨ "Procs",32,10,false,"","",176⟩]):=by kernel_rfl
theorem cK1:Tryz.prog.cellsOf 62=1:=by kernel_rfl
theorem cK2:Tryz.prog.cellsOf 63=1:=by kernel_rfl
theorem cK3:Tryz.prog.cellsOf 25=1:=by kernel_rfl
theorem cK4:Tryz.prog.cellsOf 21=1:=by kernel_rfl
theorem cK5:Tryz.prog.cellsOf 3=1:=by kernel_rfl
theorem cK6:Tryz.prog.cellsOf 27=1:=by kernel_rfl
theorem cK7:Tryz.prog.cellsOf 65=6:=by kernel_rfl
theorem cK8:Tryz.prog.cellsOf 105=2:=by kernel_rfl
theorem cK9:Tryz.prog.cellsOf 29=1:=by kernel_rfl
theorem cK10:Tryz.prog.cellsOf 26=1:=by kernel_rfl
theorem cK11:Tryz.prog.cellsOf 28=1:=by kernel_rfl
theorem cK12:Tryz.prog.cellsOf 107=1:=by kernel_rfl
theorem cK13:Tryz.prog.cellsOf 24=1:=by kernel_rfl
theorem cK14:Tryz.prog.cellsOf 31=8:=by kernel_rfl
theorem cK15:Tryz.prog.cellsOf 109=18:=by kernel_rfl
theorem cK16:Tryz.prog.cellsOf 92=2:=by kernel_rfl
theorem cK17:Tryz.prog.cellsOf 22=1:=by kernel_rfl
theorem cK18:Tryz.prog.cellsOf 23=1:=by kernel_rfl
theorem cK19:Tryz.prog.cellsOf 32=1:=by kernel_rfl
theorem cK20:Tryz.prog.cellsOf 94=1:=by kernel_rfl
theorem cK21:Tryz.prog.cellsOf 34=11:=by kernel_rfl
theorem list6 {α:Type} {l:List α} (h:l.length=6):∃ a b c d e f,l=[a,b,c,d,e,f]:=by
 match l,h with
 | [a,b,c,d,e,f],_=>exact ⟨a,b,c,d,e,f,rfl⟩
theorem ZfI (hE:∀ (f:Nat) (c:List Value) (z:DataW H×List MemPlace),f < fuel→DataW.trod enc Tryz.prog w base sp held f 65 c=some z→ZbU Tryz.prog 65 z.1→∃ x:KE,c=x.cells.toList∧x.In w w.heap.size)
  (h:DataW.trod enc Tryz.prog w base sp held fuel 27 cs=some y) (hw:ZbU Tryz.prog 27 y.1):∃ (A:Option Addr) (c:Nat) (l:List KE),cs=[.slice A l.length c]∧Zbm w w.heap.size A l:=by
 obtain ⟨A,c,l,h1,h2,h3,h4⟩:=open_row (α:=KE) (R:=KE.In w w.heap.size) (cells:=fun x=>x.cells.toList) (size:=6) cK7 (by decide) KE.cells_len Tryz.underlying27 (of_decide_eq_true (by kernel_rfl)) hE h hw;exact ⟨A,c,l,h1,h2,h3,h4⟩
theorem Zik:∀ (fuel:Nat) (cs:List Value) (y:DataW H×List MemPlace),DataW.trod enc Tryz.prog w base sp held fuel 65 cs=some y→ZbU Tryz.prog 65 y.1→∃ x:KE,cs=x.cells.toList∧x.In w w.heap.size:=by
 intro fuel
 induction fuel using Nat.strongRecOn with
 | ind fuel ih =>
   intro cs y h hw;obtain ⟨f,parts,hf,hl,hy,hx⟩:=Zav fsKE h;rw [hy] at hw;rw [cK7] at hl;obtain ⟨v0,v1,v2,v3,v4,v5,rfl⟩:=list6 hl;obtain ⟨z0,h0,-⟩:=hx 0 _ rfl;obtain ⟨z1,h1,-⟩:=hx 1 _ rfl;obtain ⟨z2,h2,-⟩:=hx 2 _ rfl;obtain ⟨z3,h3,-⟩:=hx 3 _ rfl;obtain ⟨z4,h4,-⟩:=hx 4 _ rfl;obtain ⟨z5,h5,q5⟩:=hx 5 _ rfl;have l5:=hw.part fsKE (j:=5) rfl q5;simp only [cK1,cK2,cK3,cK4,cK5,cK6] at h0 h1 h2 h3 h4 h5 l5;simp only [List.drop_succ_cons,List.drop_zero,List.take_succ_cons,List.take_zero] at h0 h1 h2 h3 h4 h5;obtain ⟨a0,e0,w0⟩:=ZD Tryz.underlying62 h0;obtain ⟨a1,e1,w1⟩:=ZD Tryz.underlying63 h1;obtain ⟨a2,e2,w2⟩:=ZD Tryz.underlying25 h2;obtain ⟨a3,e3,w3⟩:=ZD Tryz.underlying21 h3;obtain ⟨a4,e4,w4⟩:=ZD Tryz.underlying3 h4;obtain ⟨A,c,l,e5,hin⟩:=ZfI (fuel:=f) (fun f' c z hf'=>ih f' (by omega) c z) h5 l5
   injection e0 with e0; injection e1 with e1; injection e2 with e2; injection e3 with e3; injection e4 with e4; injection e5 with e5
   subst e0 e1 e2 e3 e4 e5;obtain ⟨b0,rfl,c0⟩:=ZgS w0;obtain ⟨b1,rfl,c1⟩:=ZgS w1;obtain ⟨b2,rfl,c2⟩:=ZgS w2;exact ⟨⟨b0,b1,b2,a3,a4,A,c,l⟩,rfl,KE.all_iff.2 ⟨⟨⟨c0,c1,c2,ZpZ w3,ZeZ w4,hin.1⟩,hin.2.1⟩,hin.2.2⟩⟩
theorem ZiT (h:DataW.trod enc Tryz.prog w base sp held fuel 27 cs=some y) (hw:ZbU Tryz.prog 27 y.1):∃ (A:Option Addr) (c:Nat) (l:List KE),cs=[.slice A l.length c]∧Zbm w w.heap.size A l :=
 ZfI (fun f c z _=>Zik f c z) h hw
theorem ZiS (h:DataW.trod enc Tryz.prog w base sp held fuel 105 cs=some y) (hw:ZbU Tryz.prog 105 y.1):∃ x:KPl,cs=x.cells.toList∧x.In w w.heap.size:=by
 obtain ⟨f,parts,hf,hl,hy,hx⟩:=Zav Zp0 h;rw [hy] at hw;rw [cK8] at hl
 match cs,hl with
 | [v0,v1],_ =>
   obtain ⟨z0,h0,-⟩:=hx 0 _ rfl;obtain ⟨z1,h1,q1⟩:=hx 1 _ rfl;have l1:=hw.part Zp0 (j:=1) rfl q1;simp only [cK5,cK6] at h0 h1 l1;simp only [List.drop_succ_cons,List.drop_zero,List.take_succ_cons,List.take_zero] at h0 h1;obtain ⟨a0,e0,w0⟩:=ZD Tryz.underlying3 h0;obtain ⟨A,c,l,e1,hin⟩:=ZiT h1 l1
   injection e0 with e0; injection e1 with e1
   subst e0 e1;exact ⟨⟨a0,A,c,l⟩,rfl,ZeZ w0,hin⟩
theorem Zla (h:DataW.trod enc Tryz.prog w base sp held fuel 26 cs=some y) (hw:ZbU Tryz.prog 26 y.1):∃ (A:Option Addr) (c:Nat) (l:List KPl),cs=[.slice A l.length c]∧ZcN w w.heap.size A l:=by
 obtain ⟨A,c,l,h1,h2,h3,h4⟩:=open_row (α:=KPl) (R:=KPl.In w w.heap.size) (cells:=fun x=>x.cells.toList) (size:=2) cK8 (by decide) KPl.cells_len Tryz.underlying26 (of_decide_eq_true (by kernel_rfl)) (fun f c z _ h1 h2=>ZiS h1 h2) h hw;exact ⟨A,c,l,h1,h2,h3,h4⟩
def Zpd (enc:TypeId×Value→H) (w:World) (base:Nat) (sp:Nat→Bool) (held:Bool) (f:Nat):Prop :=
 ∀ (c:List Value) (z:DataW H×List MemPlace),DataW.trod enc Tryz.prog w base sp held f 31 c=some z→ZbU Tryz.prog 31 z.1→∃ x:KP,c=x.cells.toList∧x.In w w.heap.size
theorem ZfH (hP:∀ f,f < fuel→Zpd enc w base sp held f) (h:DataW.trod enc Tryz.prog w base sp held fuel 29 cs=some y) (hw:ZbU Tryz.prog 29 y.1) :
  ∃ (A:Option Addr) (c:Nat) (l:List KP),cs=[.slice A l.length c]∧ZB l∧Zo w w.heap.size 8 A l.length (Zpi l)∧∀ x∈l,x.In w w.heap.size :=
 open_row (α:=KP) (R:=KP.In w w.heap.size) (cells:=fun x=>x.cells.toList) (size:=8) cK14 (by decide) KP.cells_len Tryz.underlying29 (of_decide_eq_true (by kernel_rfl)) (fun f c z hf=>hP f hf c z) h hw
theorem ZpJ {α:Type} {l:List α} (h:l.length=18):∃ a b c d e f g i j k m n o p q r s t,l=[a,b,c,d,e,f,g,i,j,k,m,n,o,p,q,r,s,t]:=by
 match l,h with
 | [a,b,c,d,e,f,g,i,j,k,m,n,o,p,q,r,s,t],_=>exact ⟨a,b,c,d,e,f,g,i,j,k,m,n,o,p,q,r,s,t,rfl⟩
theorem ZjP (hP:∀ f,f < fuel→Zpd enc w base sp held f) (h:DataW.trod enc Tryz.prog w base sp held fuel 109 cs=some y) (hw:ZbU Tryz.prog 109 y.1):∃ x:KG,cs=x.row∧x.One w w.heap.size∧∀ p∈x.body,p.In w w.heap.size:=by
 obtain ⟨f,parts,hf,hl,hy,hx⟩:=Zav Zp2 h;rw [hy] at hw;rw [cK15] at hl;obtain ⟨v0,v1,v2,v3,v4,v5,v6,v7,v8,v9,v10,v11,v12,v13,v14,v15,v16,v17,rfl⟩:=ZpJ hl;obtain ⟨z0,h0,-⟩:=hx 0 _ rfl;obtain ⟨z1,h1,q1⟩:=hx 1 _ rfl;obtain ⟨z2,h2,-⟩:=hx 2 _ rfl;obtain ⟨z3,h3,-⟩:=hx 3 _ rfl;obtain ⟨z4,h4,q4⟩:=hx 4 _ rfl;obtain ⟨z5,h5,q5⟩:=hx 5 _ rfl;obtain ⟨z6,h6,q6⟩:=hx 6 _ rfl;have l1:=hw.part Zp2 (j:=1) rfl q1;have l4:=hw.part Zp2 (j:=4) rfl q4;have l5:=hw.part Zp2 (j:=5) rfl q5;have l6:=hw.part Zp2 (j:=6) rfl q6;simp only [cK12,cK7,cK5,cK3,cK8,cK9] at h0 h1 h2 h3 h4 h5 h6 l1 l4 l5 l6;simp only [List.drop_succ_cons,List.drop_zero,List.take_succ_cons,List.take_zero] at h0 h1 h2 h3 h4 h5 h6;obtain ⟨a0,e0,w0⟩:=ZD Tryz.underlying107 h0;obtain ⟨x1,e1,i1⟩:=Zik _ _ _ h1 l1;obtain ⟨a2,e2,w2⟩:=ZD Tryz.underlying3 h2;obtain ⟨a3,e3,w3⟩:=ZD Tryz.underlying25 h3;obtain ⟨x4,e4,i4⟩:=ZiS h4 l4;obtain ⟨x5,e5,i5⟩:=Zik _ _ _ h5 l5;obtain ⟨A,c,l,e6,hlen,hr,hin⟩:=ZfH (fun f' hf'=>hP f' (by omega)) h6 l6;obtain ⟨b0,rfl,c0⟩:=ZgS w0;obtain ⟨b3,rfl,c3⟩:=ZgS w3;refine ⟨⟨b0,x1,a2,b3,x4,x5,A,c,l⟩,?_,⟨⟨c0,ZeZ w2,c3,hlen⟩,i1,i4,i5,hr⟩,hin⟩
 injection e0 with e0; injection e2 with e2; injection e3 with e3; injection e6 with e6
 simp only [KG.row];rw [← e1,← e4,← e5,e0,e2,e3,e6]
 rfl
theorem list8 {α:Type} {l:List α} (h:l.length=8):∃ a b c d e f g i,l=[a,b,c,d,e,f,g,i]:=by
 match l,h with
 | [a,b,c,d,e,f,g,i],_=>exact ⟨a,b,c,d,e,f,g,i,rfl⟩
theorem Zoz:∀ (fuel:Nat),Zpd enc w base sp held fuel:=by
 intro fuel
 induction fuel using Nat.strongRecOn with
 | ind fuel ih =>
   intro cs y h hw;obtain ⟨f,parts,hf,hl,hy,hx⟩:=Zav Zp1 h;rw [hy] at hw;rw [cK14] at hl;obtain ⟨v0,v1,v2,v3,v4,v5,v6,v7,rfl⟩:=list8 hl;obtain ⟨z0,h0,-⟩:=hx 0 _ rfl;obtain ⟨z1,h1,-⟩:=hx 1 _ rfl;obtain ⟨z2,h2,-⟩:=hx 2 _ rfl;obtain ⟨z3,h3,-⟩:=hx 3 _ rfl;obtain ⟨z4,h4,q4⟩:=hx 4 _ rfl;obtain ⟨z5,h5,q5⟩:=hx 5 _ rfl;obtain ⟨z6,h6,q6⟩:=hx 6 _ rfl;obtain ⟨z7,h7,q7⟩:=hx 7 _ rfl;have l4:=hw.part Zp1 (j:=4) rfl q4;have l5:=hw.part Zp1 (j:=5) rfl q5;have l6:=hw.part Zp1 (j:=6) rfl q6;have l7:=hw.part Zp1 (j:=7) rfl q7;simp only [cK13,cK5,cK3,cK10,cK6,cK11,cK9] at h0 h1 h2 h3 h4 h5 h6 h7 l4 l5 l6 l7;simp only [List.drop_succ_cons,List.drop_zero,List.take_succ_cons,List.take_zero] at h0 h1 h2 h3 h4 h5 h6 h7;obtain ⟨a0,e0,w0⟩:=ZD Tryz.underlying24 h0;obtain ⟨a1,e1,w1⟩:=ZD Tryz.underlying3 h1;obtain ⟨a2,e2,w2⟩:=ZD Tryz.underlying3 h2;obtain ⟨a3,e3,w3⟩:=ZD Tryz.underlying25 h3;obtain ⟨A4,c4,x4,e4,i4⟩:=Zla h4 l4;obtain ⟨A5,c5,x5,e5,i5⟩:=ZiT h5 l5
   obtain ⟨A6,c6,x6,e6,hlen6,hr6,i6⟩:=open_row (α:=KG) (R:=fun x=>x.One w w.heap.size∧∀ p∈x.body,p.In w w.heap.size) (cells:=KG.row) (size:=18) cK15 (by decide) KG.row_len Tryz.underlying28 (of_decide_eq_true (by kernel_rfl))
    (fun f' c z hf' h1 h2=>ZjP (fun f'' hf''=>ih f'' (by omega)) h1 h2) h6 l6
   obtain ⟨A7,c7,x7,e7,hlen7,hr7,i7⟩:=ZfH (fun f' hf'=>ih f' (by omega)) h7 l7;obtain ⟨b0,rfl,c0⟩:=ZgS w0;obtain ⟨b3,rfl,c3⟩:=ZgS w3
   injection e0 with e0; injection e1 with e1; injection e2 with e2; injection e3 with e3; injection e4 with e4; injection e5 with e5; injection e6 with e6; injection e7 with e7
   subst e0 e1 e2 e3 e4 e5 e6 e7
   exact ⟨⟨b0,a1,a2,b3,A4,c4,x4,A5,c5,x5,A6,c6,x6,A7,c7,x7⟩,rfl,
    KP.all_iff.2 ⟨⟨⟨c0,ZeZ w1,ZeZ w2,c3,hlen6,hlen7⟩,i4,i5,⟨hr6,fun g hg=>(i6 g hg).1⟩,hr7⟩,fun g hg=>(i6 g hg).2,i7⟩⟩
def ZZ.cells (x:ZZ):Array Value:=#[.int .u8 x.kind,.int .i64 x.dim]
instance:Inhabited ZZ:=⟨⟨0,0⟩⟩
def Zgc (l:List ZZ):List Value:=l.flatMap fun x=>x.cells.toList
def ZnX (l:List Nat):List Value:=l.flatMap fun x=>[Value.int .u8 (x:Nat)]
def ZoR (l:List Int):List Value:=l.flatMap fun x=>[Value.int .i64 x]
def KK.In (w:World) (B:Nat) (k:KK):Prop :=
 (ZB k.vars∧Zo w B 2 k.Av k.vars.length (Zgc k.vars)∧∀ x∈k.vars,x.kind≤255∧Zy x.dim)∧(ZB k.chans∧Zo w B 1 k.Ac k.chans.length (ZnX k.chans)∧∀ x∈k.chans,x≤255) ∧
  k.root.In w B∧(ZB k.procs∧Zo w B 1 k.Ap k.procs.length (ZoR k.procs)∧∀ x∈k.procs,Zy x)
def KK.row (k:KK):List Value:=.slice k.Av k.vars.length k.cv :: .slice k.Ac k.chans.length k.cc :: k.root.cells.toList++[.slice k.Ap k.procs.length k.cp]
def KK.cells (k:KK):Array Value:=#[.slice k.Av k.vars.length k.cv,.slice k.Ac k.chans.length k.cc,.agg k.root.cells,.slice k.Ap k.procs.length k.cp]
theorem KK.In.below {w':World} {B:Nat} {k:KK} (h:k.In w B) (hb:Below B w w'):k.In w' B :=
 ⟨⟨h.1.1,h.1.2.1.below hb,h.1.2.2⟩,⟨h.2.1.1,h.2.1.2.1.below hb,h.2.1.2.2⟩,h.2.2.1.below hb,h.2.2.2.1,h.2.2.2.2.1.below hb,h.2.2.2.2.2⟩
theorem KK.In.more {B B':Nat} {k:KK} (h:k.In w B) (hB:B≤B'):k.In w B' :=
 ⟨⟨h.1.1,h.1.2.1.more hB,h.1.2.2⟩,⟨h.2.1.1,h.2.1.2.1.more hB,h.2.1.2.2⟩,h.2.2.1.more hB,h.2.2.2.1,h.2.2.2.2.1.more hB,h.2.2.2.2.2⟩
theorem ZpK {α:Type} {l:List α} (h:l.length=11):∃ a b c d e f g i j k m,l=[a,b,c,d,e,f,g,i,j,k,m]:=by
 match l,h with
 | [a,b,c,d,e,f,g,i,j,k,m],_=>exact ⟨a,b,c,d,e,f,g,i,j,k,m,rfl⟩
theorem Zm1 (h:DataW.trod enc Tryz.prog w base sp held fuel 92 cs=some y):∃ x:ZZ,cs=x.cells.toList∧x.kind≤255∧Zy x.dim:=by
 obtain ⟨f,parts,hf,hl,hy,hx⟩:=Zav fsVar h;rw [cK16] at hl
 match cs,hl with
 | [v0,v1],_ =>
   obtain ⟨z0,h0,-⟩:=hx 0 _ rfl;obtain ⟨z1,h1,q1⟩:=hx 1 _ rfl;simp only [cK5,cK3] at h0 h1;simp only [List.drop_succ_cons,List.drop_zero,List.take_succ_cons,List.take_zero] at h0 h1;obtain ⟨a0,e0,w0⟩:=ZD Tryz.underlying25 h0;obtain ⟨a1,e1,w1⟩:=ZD Tryz.underlying3 h1
   injection e0 with e0; injection e1 with e1
   subst e0 e1;obtain ⟨b0,rfl,c0⟩:=ZgS w0;exact ⟨⟨b0,a1⟩,rfl,c0,ZeZ w1⟩
theorem ZoA (h:DataW.trod enc Tryz.prog w base sp held fuel 34 cs=some y) (hw:ZbU Tryz.prog 34 y.1):∃ k:KK,cs=k.row∧k.In w w.heap.size:=by
 obtain ⟨f,parts,hf,hl,hy,hx⟩:=Zav ZoT h;rw [hy] at hw;rw [cK21] at hl;obtain ⟨v0,v1,v2,v3,v4,v5,v6,v7,v8,v9,v10,rfl⟩:=ZpK hl;obtain ⟨z0,h0,q0⟩:=hx 0 _ rfl;obtain ⟨z1,h1,q1⟩:=hx 1 _ rfl;obtain ⟨z2,h2,q2⟩:=hx 2 _ rfl;obtain ⟨z3,h3,q3⟩:=hx 3 _ rfl;have l0:=hw.part ZoT (j:=0) rfl q0;have l1:=hw.part ZoT (j:=1) rfl q1;have l2:=hw.part ZoT (j:=2) rfl q2;have l3:=hw.part ZoT (j:=3) rfl q3;simp only [cK17,cK18,cK14,cK19] at h0 h1 h2 h3 l0 l1 l2 l3;simp only [List.drop_succ_cons,List.drop_zero,List.take_succ_cons,List.take_zero] at h0 h1 h2 h3;obtain ⟨A0,c0,x0,e0,n0,r0,i0⟩:=open_row (α:=ZZ) (R:=fun x=>x.kind≤255∧Zy x.dim) (cells:=fun x=>x.cells.toList) (size:=2) cK16 (by decide) (fun _=>rfl) Tryz.underlying22 (of_decide_eq_true (by kernel_rfl)) (fun f c z _ h1 h2=>Zm1 h1) h0 l0
 obtain ⟨A1,c1,x1,e1,n1,r1,i1⟩:=open_row (α:=Nat) (R:=fun x=>x≤255) (cells:=fun x=>[Value.int .u8 (x:Nat)]) (size:=1) cK20 (by decide) (fun _=>rfl) Tryz.underlying23 (of_decide_eq_true (by kernel_rfl)) (fun f c z _ h1 h2=>by
  obtain ⟨a0,e0,w0⟩:=ZD Tryz.underlying94 h1;obtain ⟨b0,rfl,c0⟩:=ZgS w0
  exact ⟨b0,e0,c0⟩) h1 l1
 obtain ⟨x2,e2,i2⟩:=Zoz _ _ _ h2 l2
 obtain ⟨A3,c3,x3,e3,n3,r3,i3⟩:=open_row (α:=Int) (R:=Zy) (cells:=fun x=>[Value.int .i64 x]) (size:=1) cK5 (by decide) (fun _=>rfl) Tryz.underlying32 (of_decide_eq_true (by kernel_rfl)) (fun f c z _ h1 h2=>by
  obtain ⟨a0,e0,w0⟩:=ZD Tryz.underlying3 h1
  exact ⟨a0,e0,ZeZ w0⟩) h3 l3
 refine ⟨⟨A0,c0,x0,A1,c1,x1,x2,A3,c3,x3⟩,?_,⟨n0,r0,i0⟩,⟨n1,r1,i1⟩,i2,n3,r3,i3⟩
 injection e0 with e0; injection e1 with e1; injection e3 with e3
 simp only [KK.row];rw [← e2,e0,e1,e3]
 rfl
end
end
end Go.Proofs.YtjndhfcfcedheaaGreatDoor
