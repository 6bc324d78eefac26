/- Texts that belong together: UK RS QT W1 W6 C1 C3 C5 FV FW PR C8 CE UL UM UN RX KF KG KH KI KJ KN QF. -/
import Derived.Test.YtjndhfcfcedheaaGreatDoorHK3
import Derived.Test.YtjndhfcfcedheaaGreatDoorHK1
import Derived.Test.YtjndhfcfcedheaaGreatDoorProg
import Derived.Laws.BitsLemmas
import Derived.Laws.IdiomStrings
import Derived.Laws.RangeAny
import Derived.Lib.EndianBits
import Derived.Lib.OthersKept
import Derived.Shelf.LaysC
import Derived.Shelf.LaysM
import Derived.Shelf.Small.Strs
import Derived.Shelf.Strconv.ErrVarParseInt
import Derived.Shelf.Strconv.Itoa3
import Derived.Shelf.Strconv.ParseIntPublic10
import Derived.Shelf.Strings.Fields
import Derived.Shelf.Strings.Search1
import Derived.Lib.Hide
import Derived.Lib.IndexMore
import Derived.Lib.ParseIntB
import Derived.Lib.ParseIntBCases
import Derived.BigRegion
import Derived.Laws.Rows
import Derived.Deep.Quiet
import Derived.BigQuiet
import Derived.IntWalk
import Derived.Lib.Bytealg
import Derived.Lib.ConvBytes
import Derived.Lib.IndexBytes
import Derived.Lib.ParseIntBTie
import Derived.Maps.OwnSet
import Derived.Laws.EntriesVeiled
set_option linter.unusedVariables false
set_option linter.unusedSimpArgs false
set_option maxRecDepth 100000
set_option maxHeartbeats 16000000
namespace Go.Proofs.YtjndhfcfcedheaaGreatDoor
open Go.RowKit
section
def Zki (w w':Zr) (a r:Nat):Prop:=w'.par.length+r≤w.par.length+a∧w'.uses.length+r≤w.uses.length+a∧w'.grp.length+r≤w.grp.length+a
theorem Zki.trans {a b c:Zr} {x y z:Nat} (h:Zki a b x y) (k:Zki b c y z):Zki a c x z:=by
 unfold Zki at *
 omega
section
variable {vs:List ZZ} {nc:Nat}
theorem Zhd (p:KP):∀ {d:Nat} {h:Bool} {a r:Nat} (f:Nat) (w:Zr),Zx vs nc d h a p=some r→(Z7 f p w).par.length+r+1≤w.par.length+a∧(Z7 f p w).uses.length+r≤w.uses.length+a∧(Z7 f p w).grp.length+r≤w.grp.length+a:=by
 induction p using KP.ind with
 | h p ihg ihl =>
   intro d h a r f w hr;rw [Zds] at hr
   split at hr
   ·cases hr
   rename_i hc
   have ha:0 < a:=by
    rcases Nat.eq_zero_or_pos a with h0 | h0
    ·subst h0; simp at hc
    ·exact h0
   have hps:∀ (l:List KP),(∀ x∈l,x∈p.l)→∀ (first:Bool) (a r:Nat) (w:Zr),Zn vs nc (d+1) h first a l=some r→Zki w (ZE f l w) a r:=by
    intro l
    induction l with
    | nil=>intro _ first a r w hx; rw [Zn] at hx; cases hx; rw [ZE]; exact ⟨Nat.le_refl _,Nat.le_refl _,Nat.le_refl _⟩
    | cons q l ih =>
      intro hsub first a r w hx;rw [Zn] at hx;rw [ZE]
      cases hq:Zx vs nc (d+1) (h || first) a q with
      | none=>rw [hq] at hx; cases hx
      | some y =>
        rw [hq] at hx;have h1:=ihl q (hsub q (by simp)) f w hq;have h2:=ih (fun x hx=>hsub x (by simp [hx])) false y r (Z7 f q w) hx;unfold Zki at *
        omega
   have hbr:∀ (l:List KP),(∀ x∈l,x∈p.l)→∀ (first:Bool) (a r:Nat) (w:Zr) (ch:List Nat),Zn vs nc (d+1) h first a l=some r→Zki w (Zj f l w ch).1 a r:=by
    intro l
    induction l with
    | nil=>intro _ first a r w ch hx; rw [Zn] at hx; cases hx; rw [Zj]; exact ⟨Nat.le_refl _,Nat.le_refl _,Nat.le_refl _⟩
    | cons q l ih =>
      intro hsub first a r w ch hx;rw [Zn] at hx;rw [Zj]
      cases hq:Zx vs nc (d+1) (h || first) a q with
      | none=>rw [hq] at hx; cases hx
      | some y =>
        rw [hq] at hx;have h1:=ihl q (hsub q (by simp)) w.par.length { w with par:=w.par++[(f:Int)] } hq;have h2:=ih (fun x hx=>hsub x (by simp [hx])) false y r (Z7 w.par.length q { w with par:=w.par++[(f:Int)] }) (ch++[w.par.length]) hx;simp only [List.length_append,List.length_singleton] at h1;unfold Zki at *
        omega
   have hgs:∀ (l:List KG),(∀ x∈l,x∈p.g)→∀ (a r:Nat) (w:Zr),ZaF vs nc (d+1) h a l=some r→Zki w (ZF f l w) a r:=by
    intro l
    induction l with
    | nil=>intro _ a r w hx; rw [ZaF] at hx; cases hx; rw [ZF]; exact ⟨Nat.le_refl _,Nat.le_refl _,Nat.le_refl _⟩
    | cons g l ih =>
      intro hsub a r w hx;rw [ZaF,Zfb] at hx;rw [ZF,Zcz]
      match hb:g.body with
      | []=>rw [hb] at hx; cases hx
      | q :: r' =>
        rw [hb] at hx
        simp only at hx ⊢
        cases hq:Zx vs nc (d+1) h a q with
        | none=>rw [hq] at hx; cases hx
        | some y =>
          rw [hq] at hx;have h1:=ihg g (hsub g (by simp)) q (by rw [hb]; simp) f w hq;have h2:=ih (fun x hx=>hsub x (by simp [hx])) y r (Z7 f q w) hx;unfold Zki at *
          omega
   cases hm:Zn vs nc (d+1) h (p.kind == 11) (a - 1) p.l with
   | none=>rw [hm] at hr; cases hr
   | some m =>
     rw [hm] at hr
     simp only at hr
     rw [Zd4]
     split
     ·have h1:=hbr p.l (fun x hx=>hx) _ _ _ { w with uses:=w.uses++[(p,f)] } [] hm
      obtain ⟨q,hq⟩:∃ q,Zj f p.l { w with uses:=w.uses++[(p,f)] } []=q:=⟨_,rfl⟩
      rw [hq] at h1 ⊢;have h2:=hgs p.g (fun x hx=>hx) m r { q.1 with grp:=q.1.grp++[q.2],out:=q.1.out++[f] } hr
      obtain ⟨F,hF⟩:∃ F,ZF f p.g { q.1 with grp:=q.1.grp++[q.2],out:=q.1.out++[f] } = F:=⟨_,rfl⟩
      rw [hF] at h2 ⊢;unfold Zki at h1 h2;simp only [List.length_append,List.length_singleton] at h1 h2
      omega
     ·have h1:=hps p.l (fun x hx=>hx) _ _ _ { w with uses:=w.uses++[(p,f)] } hm;have h2:=hgs p.g (fun x hx=>hx) m r (ZE f p.l { w with uses:=w.uses++[(p,f)] }) hr;unfold Zki at *;simp only [List.length_append,List.length_singleton] at h1 h2
      omega
end
theorem Zmf {Q:KP→Prop} (p:KP):p.all Q→∀ (f:Nat) (w:Zr),∀ u∈(Z7 f p w).uses,u∈w.uses∨Q u.1:=by
 induction p using KP.ind with
 | h p ihg ihl =>
   intro hq f w;rw [KP.all_iff] at hq;obtain ⟨q1,q2,q3⟩:=hq
   have hps:∀ (l:List KP),(∀ x∈l,x∈p.l)→∀ (w:Zr),∀ u∈(ZE f l w).uses,u∈w.uses∨Q u.1:=by
    intro l
    induction l with
    | nil=>intro _ w u hu; rw [ZE] at hu; exact .inl hu
    | cons q l ih =>
      intro hsub w u hu;rw [ZE] at hu
      rcases ih (fun x hx=>hsub x (by simp [hx])) _ u hu with h | h
      ·exact ihl q (hsub q (by simp)) (q3 q (hsub q (by simp))) f w u h
      ·exact .inr h
   have hbr:∀ (l:List KP),(∀ x∈l,x∈p.l)→∀ (w:Zr) (ch:List Nat),∀ u∈(Zj f l w ch).1.uses,u∈w.uses∨Q u.1:=by
    intro l
    induction l with
    | nil=>intro _ w ch u hu; rw [Zj] at hu; exact .inl hu
    | cons q l ih =>
      intro hsub w ch u hu;rw [Zj] at hu
      rcases ih (fun x hx=>hsub x (by simp [hx])) _ _ u hu with h | h
      ·exact ihl q (hsub q (by simp)) (q3 q (hsub q (by simp))) w.par.length { w with par:=w.par++[(f:Int)] } u h
      ·exact .inr h
   have hgs:∀ (l:List KG),(∀ x∈l,x∈p.g)→∀ (w:Zr),∀ u∈(ZF f l w).uses,u∈w.uses∨Q u.1:=by
    intro l
    induction l with
    | nil=>intro _ w u hu; rw [ZF] at hu; exact .inl hu
    | cons g l ih =>
      intro hsub w u hu;rw [ZF,Zcz] at hu
      match hb:g.body with
      | []=>rw [hb] at hu; exact ih (fun x hx=>hsub x (by simp [hx])) w u hu
      | q :: r' =>
        rw [hb] at hu
        rcases ih (fun x hx=>hsub x (by simp [hx])) _ u hu with h | h
        ·exact ihg g (hsub g (by simp)) q (by rw [hb]; simp) (q2 g (hsub g (by simp)) q (by rw [hb]; simp)) f w u h
        ·exact .inr h
   have hone:∀ u∈({ w with uses:=w.uses++[(p,f)] }:Zr).uses,u∈w.uses∨Q u.1:=fun u hu=>by
    rcases List.mem_append.1 hu with h | h
    ·exact .inl h
    ·simp at h; subst h; exact .inr q1
   intro u hu;rw [Zd4] at hu
   split at hu
   ·rcases hgs p.g (fun x hx=>hx) _ u hu with h | h
    ·rcases hbr p.l (fun x hx=>hx) _ _ u h with h | h
     ·exact hone u h
     ·exact .inr h
    ·exact .inr h
   ·rcases hgs p.g (fun x hx=>hx) _ u hu with h | h
    ·rcases hps p.l (fun x hx=>hx) _ u h with h | h
     ·exact hone u h
     ·exact .inr h
    ·exact .inr h
theorem ZaS {Q:KP→Prop} {p:KP} (h:p.all Q):∀ u∈(Zd p).uses,Q u.1:=fun u hu=>by
 rcases Zmf p h 0 ⟨[-1],[],[],[]⟩ u hu with h1 | h1
 ·cases h1
 ·exact h1
theorem Zk6 {vs:List ZZ} {nc:Nat} {p:KP} {d:Nat} {h:Bool} {a r:Nat} (hr:Zx vs nc d h a p=some r):(Zd p).par.length≤a∧(Zd p).uses.length≤a∧(Zd p).grp.length≤a:=by
 have:=Zhd p 0 ⟨[-1],[],[],[]⟩ hr;simp only [List.length_singleton,List.length_nil] at this;unfold Zd
 omega
end
structure Zcc (S:Nat) (Y:Nat→Prop) (w w':World):Prop where
 bel:Zl S Y w w'
 oth:KeepsOthers w w'
theorem Zcc.refl (S:Nat) (Y:Nat→Prop) (w:World):Zcc S Y w w:=⟨Zl.of (Below.refl _ _),KeepsOthers.refl _⟩
theorem Zcc.trans {S:Nat} {Y:Nat→Prop} {a b c:World} (h:Zcc S Y a b) (k:Zcc S Y b c):Zcc S Y a c :=
 ⟨⟨k.bel.os.trans h.bel.os,k.bel.tape.trans h.bel.tape,k.bel.output.trans h.bel.output,Nat.le_trans h.bel.size k.bel.size,fun i hi hn=>(k.bel.block i hi hn).trans (h.bel.block i hi hn)⟩,h.oth.trans k.oth⟩
def Zqw {σ α:Type} (F:Fence) (n:Nat) (P:Program) (gf:Nat) (lb:Array Value) (encs:α→Array Value) (S:Nat) (Y:Nat→Prop) (At:σ→World→Prop) (seen:σ→List α) (next:σ→α→σ) (X:σ→Nat→Prop) (ok:σ→α→Prop) (fin:σ→Prop) (D:World→Prop) (xs:List α) (w:World):Prop :=
 ∀ (l:Nat) (J:List α→World→Prop) (W:World),Below w.heap.size w W→(∀ pre a b,J pre a→Zcc S Y a b→J pre b)→(∀ pre a,J pre a→D a) →
  (∀ s x r W1,J (seen s) W1→At s W1→ok s x→xs=seen s++x :: r→YieldAt F (n - 1) P l (encs x) W1 fun e W'=>e = .returned (.bool true)∧J (seen s++[x]) W'∧At (next s x) W'∧Z0 (X s) W1 W') →
  J [] W→CallsIn F n P gf (#[.func (.yield l) #[] #[]]++lb) W fun e W'=>(∃ v,e = .returned v)∧J xs W'∧∃ s,seen s=xs∧fin s∧At s W'
def ZoS (X:Nat→Prop) (W:World) (R:World→Prop):Exit→Act→World→Prop
 | .normal,_,W'=>Z0 X W W'∧KeepsOthers W W'∧R W'
 | _,_,_=>False
theorem ZcL {P:Program} {F:Fence} {n:Nat} {σ α:Type} {g:Operand} {ps:Array Tmp} {assign body:Code} {Q:Exit→Act→World→Prop} {a:Act} {w:World}
  (hro:F.round=none) (hdp:F.depth=none) {gf:Nat} {lb:Array Value} (hg:a.eval g = .func (.func gf) #[] lb) (hFg:F.fn gf) (eg:∀ args w,(callFunc gf args).run P w = .ok (.enter gf args) w)
  {encs:α→Array Value} {S:Nat} {Y:Nat→Prop} {At:σ→World→Prop} {seen:σ→List α} {next:σ→α→σ} {X:σ→Nat→Prop} {ok:σ→α→Prop} {fin:σ→Prop} {D:World→Prop} {xs:List α} {w0:World} (hseq:Zqw F (n - 1) P gf lb encs S Y At seen next X ok fin D xs w0) (hS:S≤w.heap.size) (hAt:∀ s a b,At s a→Z0 (fun _=>False) a b→At s b) (hb0:Below w0.heap.size w0 w) (hps:∀ x,(encs x).size=ps.size)
  (I:List α→World→Prop) (hI:∀ pre a b,I pre a→Zl S Y a b→I pre b) (hID:∀ pre a,I pre a→D a) (h0:I [] w)
  (hround:∀ (l:Nat) (s:σ) (x:α) (r:List α) (W:World),I (seen s) W→At s W→ok s x→xs=seen s++x :: r→w.heap.size+2≤W.heap.size →
   assign.wpIn (F.inRound l) (n - 1 - 1) P (Exit.then (fun a₁ W1=>Z0 (X s) W W1∧KeepsOthers W W1 ∧
    ∀ W2,W1.grownBy W2 (some l)→(w.heap.size≤l∧l < w.heap.size+2)→Z0 (fun _=>False) W1 W2→body.wpIn (F.inRound l) (n - 1 - 1) P (ZoS (X s) W2 (fun W3=>I (seen s++[x]) W3∧At (next s x) W3)) a₁ W2) (fun _ _ _=>False))
    { tmps:=(ps.zip (encs x)).foldl (fun t (p,v)=>t.setIfInBounds p v) a.tmps,defers:=[] } W)
  (hdone:∀ (Dn:Nat) (s:σ) (W:World),I xs W→At s W→seen s=xs→fin s→W.heap[Dn]? = some (.deferred (some []))→w.heap.size≤Dn→Q .normal { a with defers:={ target:=.collected Dn,args:=#[] } :: a.defers } W) :
  (Code.rangeFunc g ps assign body).wpIn F n P Q a w:=by
 refine wpIn_rangeFunc ?_;intro fn hfn;rw [hro]
 obtain ⟨rec,hrec⟩:∃ rec:LoopState→Option Code→Loop,rec=fun st pe=>{ state:=st,pending:=pe,fn,tmps:=a.tmps,params:=ps,assign,body,defers:=w.heap.size }:=⟨_,rfl⟩
 obtain ⟨W1,hW1⟩:∃ W1,(w.alloc (.deferred (some []))).alloc (.loop (rec .ready none))=W1:=⟨_,rfl⟩
 have hsz:W1.heap.size=w.heap.size+2:=by rw [← hW1]; simp
 have hL1:W1.heap[w.heap.size+1]? = some (.loop (rec .ready none)):=by
  rw [← hW1]; have:=World.alloc_heap_new (w.alloc (.deferred (some []))) (.loop (rec .ready none)); rwa [World.size_alloc] at this
 have hK1:W1.heap[w.heap.size]? = some (.deferred (some [])):=by
  rw [← hW1]; exact (Below.heap_alloc _ _ _ (by simp)).trans (World.alloc_heap_new w _)
 have hI1:I [] W1:=by
  rw [← hW1];exact hI _ _ _ h0 (Zl.of ((((Below.refl _ _).alloc (Nat.le_refl _) _).alloc (by simp) _).mono hS))
 have hb1:Below w0.heap.size w0 W1:=by
  rw [← hW1]; exact hb0.trans ((((Below.refl _ w).alloc (Nat.le_refl _) _).alloc (by simp) _).mono hb0.size)
 refine ⟨w.heap.size+1,[{ target:=.collected w.heap.size,args:=#[] }],W1,{ target:=.fn (.func gf) lb,args:=#[.func (.yield (w.heap.size+1)) #[] #[]] },W1,gf,
  #[.func (.yield (w.heap.size+1)) #[] #[]]++lb,W1,?_,?_,?_,?_,(fun h=>by rw [hdp] at h; cases h),?_⟩
 ·rw [← hW1,hrec]; exact run_enterLoop_outer _ _ _ _ _
 ·simp only [resolve,hg]
  simp [go_sem]
 ·intro f' hf'; simp [Target.leads] at hf'; subst hf'; exact hFg
 ·simp [invoke,go_sem,eg]
 ·refine (hseq (w.heap.size+1)
   (fun pre W=>I pre W∧W.heap[w.heap.size+1]? = some (.loop (rec .ready none))∧W.heap[w.heap.size]? = some (.deferred (some []))∧w.heap.size+2≤W.heap.size)
   W1 hb1 ?_ (fun pre a h=>hID pre a h.1) ?_ ⟨hI1,hL1,hK1,by omega⟩).mono ?_
  ·rintro s A B ⟨hs,hl,hk,hz⟩ hgr;exact ⟨hI s A B hs hgr.bel,hgr.oth.same _ _ hl rfl,hgr.oth.same _ _ hk rfl,Nat.le_trans hz hgr.bel.size⟩
  ·rintro s x r W ⟨hi,hl,hk,hz⟩ hat hok hxs;have hy:=run_yield (P:=P) (args:=encs x) hl (by rw [hrec]; exact hps x);rw [hrec] at hy;refine ⟨fn,_,assign,body,hy,roundIn_of_wpIn hfn (wpIn_mono (hround (w.heap.size+1) s x r W hi hat hok hxs hz) ?_)⟩;rintro e a1 W2 hp
   cases e with
   | normal =>
     obtain ⟨hkx,hlp,hbody⟩:=hp;have hl2:=hlp.same _ _ hl rfl;have hk2:=hlp.same _ _ hk rfl;refine ⟨_,run_beginRound hl2 (by rw [hrec]),?_⟩;have hl3:(W2.putObj (w.heap.size+1) (.loop { rec .ready none with state:=.busy })).heap[w.heap.size+1]? = some (.loop { rec .ready none with state:=.busy }):=World.putObj_heap_same (Array.getElem?_eq_some_iff.1 hl2).1;have hk3:(W2.putObj (w.heap.size+1) (.loop { rec .ready none with state:=.busy })).heap[w.heap.size]? = some (.deferred (some [])):=(World.putObj_heap_other (by omega)).trans hk2;have kx3:=hkx.trans (Z0.put (X s) W2 _ _ (.loop { rec .ready none with state:=.busy }) hl2 rfl)
     have fin:∀ (jump:Option Code) (W3:World),KeepsOthers (W2.putObj (w.heap.size+1) (.loop { rec .ready none with state:=.busy })) W3 →
       (Instr.endRound (w.heap.size+1) jump).run P W3 = .ok (.bool jump.isNone) (W3.putObj (w.heap.size+1) (.loop (rec (if jump.isNone then .ready else .done) jump))) ∧
       W3.heap[w.heap.size+1]? = some (.loop { rec .ready none with state:=.busy }) ∧
       (W3.putObj (w.heap.size+1) (.loop (rec (if jump.isNone then .ready else .done) jump))).heap[w.heap.size+1]? = some (.loop (rec (if jump.isNone then .ready else .done) jump)) ∧
       (W3.putObj (w.heap.size+1) (.loop (rec (if jump.isNone then .ready else .done) jump))).heap[w.heap.size]? = some (.deferred (some [])):=fun jump W3 hk4=>by
      have hl4:=hk4.same _ _ hl3 rfl;have:=run_endRound (P:=P) jump hl4;rw [hrec] at this ⊢;exact ⟨this,by rw [hrec] at hl4; exact hl4,World.putObj_heap_same (Array.getElem?_eq_some_iff.1 hl4).1,(World.putObj_heap_other (by omega)).trans (hk4.same _ _ hk3 rfl)⟩
     refine wpIn_mono (hbody _ (grownBy_putObj' W2 _ _) ⟨by omega,by omega⟩ (Z0.put _ W2 _ _ _ hl2 rfl)) ?_;rintro e a2 W4 hp4
     cases e with
     | normal =>
       obtain ⟨kx4,lp4,hi4,hat4⟩:=hp4;obtain ⟨hr,hl4,hl5,hk5⟩:=fin none W4 lp4;refine ⟨_,_,hr,rfl,⟨hI _ _ _ hi4 (Zl.of ((Below.refl _ _).putObj (by omega) _)),hl5,hk5,?_⟩,hAt _ _ _ hat4 (Z0.put _ W4 _ _ _ hl4 rfl),(kx3.trans kx4).trans (Z0.put (X s) W4 _ _ _ hl4 rfl)⟩;have h1:=(kx3.trans kx4).size
       simp [World.putObj] at h1 ⊢; omega
     | _=>exact hp4.elim
   | _=>exact hp.elim
  ·rintro e W2 ⟨⟨v,rfl⟩,⟨hi,hl,hk,hz⟩,s,hs,hf,hat⟩;refine ⟨none,_,by have:=run_endLoop (P:=P) hl (by rw [hrec]; simp); rw [hrec] at this; exact this,?_⟩;exact hdone _ s _ (hI _ _ _ hi (Zl.of ((Below.refl _ _).putObj (by omega) _))) (hAt _ _ _ hat (Z0.put _ W2 _ _ _ hl rfl)) hs hf ((World.putObj_heap_other (by omega)).trans hk) (Nat.le_refl _)
theorem Zgg {P:Program} {o:Oper} {a:Act} {w:World} {K:Act→Prop} (h:o.quiet P a (fun w'=>w'=w) K):o.still P a w K:=by
 obtain ⟨v,h1,h2⟩:=h;have h3:=h1 w rfl;unfold Oper.quietAt at h3;unfold Oper.still;generalize (execOp a.eval o).run P w=r at *
 cases r with
 | ok n w' =>
   cases n <;> simp only [Oper.quietUpon] at h3 <;> simp only [Oper.stillUpon]
   case value u=>obtain ⟨e1,e2⟩:=h3; subst e2; exact ⟨e1,h2⟩
   case skip=>obtain ⟨e1,e2⟩:=h3; subst e2; exact ⟨e1,h2⟩
   case enter f args =>
    obtain ⟨e1,hc⟩:=h3;subst e1;exact ⟨rfl,v,hc,h2⟩
 | halt x w'=>simp only [Oper.quietUpon] at h3
theorem ZbE {P:Program} {ops:Array Oper} {w:World} {Q:Act→Prop}:∀ (l:List Oper) (a:Act),wpQuiet P ops (fun w'=>w'=w) Q l a→wpStill P ops w Q l a
 | [],_,h=>h
 | o :: l,a,h=>by
   simp only [wpQuiet,wpStill] at h ⊢
   split
   ·rename_i hw;rw [if_pos hw] at h;refine Zgg ?_;obtain ⟨v,h1,h2⟩:=h;exact ⟨v,h1,ZbE l _ h2⟩
   ·rename_i hw;rw [if_neg hw] at h;exact ZbE l _ h
theorem ZG {P:Program} {id:Nat} {Q:Exit→Act→World→Prop} {a:Act} {w:World} {l:List Oper} (n:Nat) (hm:P.follows .mixedOrders=true) (hB:Region.lexTailB .any l.toArray n=true)
  (h:wpQuiet P l.toArray (fun w'=>w'=w.drew) (fun a'=>wpList P l.toArray Q (l.drop n) a' w.drew) (l.take n) a):(Code.region id l.toArray true).wp P Q a w :=
 wp_region_still_tail n hm hB (ZbE _ _ h)
def ZqS (v:Value) (w:World) (e:Ending) (w':World):Prop:=e = .returned v∧w=w'
def is32 (a:Int):Prop:=-2147483648≤a∧a≤2147483647
def hv (c:UInt8):Nat:=if c.toNat≤57 then c.toNat - 48 else c.toNat - 55
def Ze7 (k o tk:Nat):Bool:=(k == 4 && (o == 25 || o == 26)) || (k == 6 && tk == 1)
mutual
def ZQ:KE→Nat
 | ⟨k,o,tk,_,_,_,_,l⟩=>match l with
   | []=>1
   | [a]=>if Ze7 k o tk then ZQ a else max (ZQ a) 2
   | a :: b :: _=>if o≠20∧o≠21∧ZQ a=ZQ b then min (ZQ a+1) 3 else max (ZQ a) (ZQ b)
end
mutual
def ZT:KE→Nat
 | ⟨_,o,_,_,_,_,_,l⟩=>match l with
   | []=>0
   | [a]=>ZT a
   | a :: b :: _=>if o≠20∧o≠21∧ZQ a=3∧ZQ b=3 then max (ZT b) (ZT a+1) else max (ZT a) (ZT b)
end
mutual
def ZdA:KE→Bool
 | ⟨k,o,tk,_,_,_,_,l⟩=>match l with
   | []=>true
   | [a]=>ZdA a && (Ze7 k o tk || (k == 4 && o != 23))
   | a :: b :: _=>ZdA a && ZdA b && decide (6≤o)
end
theorem Za0.drew {g:Nat} {w w':World} (h:Za0 g w w'):Za0 g w w'.drew:=⟨h.os,h.tape,h.output,h.size,h.block⟩
theorem ZeP (w:World) (o o':Obj):Below w.heap.size w ((w.alloc o).alloc o'):=((Below.refl _ _).alloc (Nat.le_refl _) _).alloc (by simp) _
theorem Z5 (w:World) (o:Obj) (t:TypeId) (cs:Array Value):Blk ((w.alloc o).alloc (.cells cs t)) (w.heap.size+1) t cs:=by
 have:=Blk.new (w.alloc o) t cs
 simpa using this
section
section
variable {P:Program} {ops:Array Oper} {Q:Exit→Act→World→Prop}
structure ZgQ (ops:Array Oper) (V:Nat→Value) (a0:Act) (L:Nat→Bool) (a:Act):Prop where
 hit:∀ (i:Nat) (o:Oper) (d:Nat),ops[i]? = some o→o.dst=some d→L i=true→a.tmps[d]? = some (V i)
 miss:∀ k,(∀ (i:Nat) (o:Oper),ops[i]? = some o→L i=true→o.dst≠some k)→a.tmps[k]? = a0.tmps[k]?
 defers:a.defers=a0.defers
 size:a.tmps.size=a0.tmps.size
def LeavesV (P:Program) (o:Oper) (v:Value) (a:Act) (w:World) (R:World→Prop):Prop :=
 ∀ (K:Act→World→Prop) (Q:Exit→Act→World→Prop),(∀ w',R w'→K (a.put o.dst v) w')→o.wp P a w K Q
structure Apart (ops:Array Oper) (n:Nat):Prop where
 plain:∀ (i:Nat) (o:Oper),ops[i]? = some o→o.guard=none
 back:∀ (i:Nat) (o:Oper),ops[i]? = some o→∀ e∈o.after,e.on < i
 inside:∀ (i:Nat) (o:Oper) (d:Nat),ops[i]? = some o→o.dst=some d→d < n
 one:∀ (i j:Nat) (o o':Oper) (d:Nat),ops[i]? = some o→ops[j]? = some o'→o.dst=some d→o'.dst=some d→i=j
def upd (L:Nat→Bool) (i:Nat):Nat→Bool:=fun j=>if j=i then true else L j
theorem Zk5 (a:Act) (d:Nat) (v:Value) (k:Nat):(a.put (some d) v).tmps[k]? = if k=d∧d < a.tmps.size then some v else a.tmps[k]?:=by
 simp only [Act.put,Array.getElem?_setIfInBounds]
 by_cases h:d=k
 ·subst h
  by_cases h2:d < a.tmps.size
  ·simp [h2]
  ·simp [h2]
 ·rw [if_neg h,if_neg (fun h2=>h h2.1.symm)]
theorem ZgQ.put {V:Nat→Value} {a0 a:Act} {L:Nat→Bool} (hA:Apart ops a0.tmps.size) (h:ZgQ ops V a0 L a) {i:Nat} {o:Oper} (hi:ops[i]? = some o):ZgQ ops V a0 (upd L i) (a.put o.dst (V i)):=by
 cases hd:o.dst with
 | none =>
   refine ⟨fun j o' d hj hd' hL=>?_,fun k hk=>h.miss k fun j o' hj hL=>hk j o' hj ?_,h.defers,h.size⟩
   ·by_cases hji:j=i
    ·subst hji; rw [hi] at hj; cases hj; rw [hd] at hd'; cases hd'
    ·exact h.hit j o' d hj hd' (by simpa [upd,hji] using hL)
   ·simp only [upd]; split <;> first | rfl | exact hL
 | some d =>
   have hds:=hA.inside i o d hi hd;refine ⟨fun j o' d' hj hd' hL=>?_,fun k hk=>?_,h.defers,by simp [Act.put,h.size]⟩
   ·rw [Zk5]
    by_cases hji:j=i
    ·subst hji; rw [hi] at hj; cases hj; rw [hd] at hd'; cases hd';rw [if_pos ⟨rfl,by rw [h.size]; exact hds⟩]
    ·rw [if_neg (fun hc=>hji (hA.one j i o' o d' hj hi hd' (by rw [hd,hc.1])))];exact h.hit j o' d' hj hd' (by simpa [upd,hji] using hL)
   ·rw [Zk5,if_neg (fun hc=>hk i o hi (by simp [upd]) (by rw [hd,hc.1]))];exact h.miss k fun j o' hj hL=>hk j o' hj (by simp only [upd]; split <;> first | rfl | exact hL)
theorem ZgQ.same {V:Nat→Value} {a0 a b:Act} {L:Nat→Bool} (h:ZgQ ops V a0 L a) (h':ZgQ ops V a0 L b):a=b:=by
 obtain ⟨t,d⟩:=a;obtain ⟨t',d'⟩:=b
 have e:t=t':=by
  apply Array.ext_getElem?
  intro k
  by_cases hk:∃ (i:Nat) (o:Oper),ops[i]? = some o∧L i=true∧o.dst=some k
  ·obtain ⟨i,o,hi,hL,hd⟩:=hk;exact (h.hit i o k hi hd hL).trans (h'.hit i o k hi hd hL).symm
  ·have hn:∀ (i:Nat) (o:Oper),ops[i]? = some o→L i=true→o.dst≠some k:=fun i o hi hL hd=>hk ⟨i,o,hi,hL,hd⟩;exact (h.miss k hn).trans (h'.miss k hn).symm
 subst e;have e2:d=d':=h.defers.trans h'.defers.symm;rw [e2]
def ZpF (ops:Array Oper) (V:Nat→Value):Nat→Act→Act
 | 0,a=>a
 | n+1,a=>(ZpF ops V n a).put ((ops[n]?).bind (·.dst)) (V n)
def listedF (l:Array Bool):Nat→Bool:=fun i=>l.getD i true
end
end
section
section
variable {P:Program} {Q:Exit→Act→World→Prop}
def depB (l:List Oper) (o:Oper) (t:Nat):Bool :=
 (List.range l.length).all fun j=>match l[j]? with
  | some o'=>o'.dst != some t || o.after.any (fun e=>e.on == j && Region.binds .any e)
  | none=>true
def depsB (l:List Oper) (o:Oper):Bool:=o.op.operands.all fun x=>match x with
 | .tmp t=>depB l o t
 | _=>true
def selB (o:Oper):Bool:=match o.op with
 | .select _ _=>false
 | _=>true
def Zo7 (l:List Oper) (n:Nat) (i:Nat) (o:Oper):Bool :=
 o.guard.isNone && o.after.all (fun e=>decide (e.on < i)) && (match o.dst with
  | some d=>decide (d < n) && (List.range l.length).all (fun j=>decide (j=i) || match l[j]? with
     | some o'=>o'.dst != some d
     | none=>true)
  | none=>true) && depsB l o && selB o
def apartB (l:List Oper) (n:Nat):Bool :=
 (List.range l.length).all fun i=>match l[i]? with
  | some o=>Zo7 l n i o
  | none=>true
def endV (l:List Oper) (A:Act) (n:Nat) (p:Value) (i:Nat):Value :=
 if i < n then (((l[i]?).bind (·.dst)).bind (A.tmps[·]?)).getD undef else if i=n then p else undef
end
end
def ZnM (P:Program):List Oper→Act→World→Option (Act×World)
 | [],a,w=>some (a,w)
 | o :: r,a,w =>
   match o.guard with
   | some _=>none
   | none =>
     match (execOp a.eval o).run P w with
     | .ok (.value v) w'=>ZnM P r (a.put o.dst v) w'
     | .ok .skip w'=>ZnM P r (a.put o.dst undef) w'
     | _=>none
section
section
variable {w w':World} {g:Nat} {t:TypeId} {xs:List Value}
end
def Zpl (m:List Int):List Value:=m.map fun v=>.int .i32 v
end
section
open Go.RowKit Go.Maps Go.WideMaps
theorem Zv {w:World} {B e size n:Nat} {v:Value} {xs:List Value} (h:w.ownsRow B e size v n xs):∃ A cap,v = .slice A n cap:=by
 rcases h.2 with ⟨rfl,h0⟩ | ⟨g,cap,cur,rfl,_⟩
 ·have:n=0∨True:=.inr trivial
  have hn:n=0:=by first | exact h0 | omega
  subst hn;exact ⟨none,0,rfl⟩
 ·exact ⟨_,cap,rfl⟩
section
end
end
def Zmc (n:Nat):Value:=.int .i64 n
def ZbS (l:List Nat):List Value:=l.map Zmc
def Zan (par:List Int):List FrL:=par.map fun q=>⟨q,0,0,5,0⟩
structure PlS where
 pl:Zr
 vf:Value
 vt:Value
 vg:Value
 vs:List Value
def ZcT (s:PlS) (k:Nat):Prop:=s.vf.ownBlock=some k∨s.vt.ownBlock=some k∨s.vg.ownBlock=some k∨∃ v∈s.vs,v.ownBlock=some k
def ZhX (S0:Nat) (vg vt:Value) (vs:List Value) (grp:List (List Nat)) (W:World):Prop :=
 W.ownsRow S0 32 1 vg grp.length vs∧(∀ v∈vs,v.oneCell'=true) ∧
  ∀ (i:Nat) (g:List Nat),grp[i]? = some g→∃ v,vs[i]? = some v∧W.ownsRow S0 3 1 v g.length (ZbS g)∧∀ k,v.ownBlock=some k→vt.ownBlock≠some k
structure ZH (S0 bw:Nat) (T:List (KP×Nat)→Nat→Nat) (s:PlS) (W:World):Prop where
 lo:bw < S0
 hi:S0≤W.heap.size
 blk:Blk W bw 57 #[s.vf,s.vt,s.vg]
 fr:W.ownsRow S0 74 5 s.vf s.pl.par.length (Zem (Zan s.pl.par))
 tm:W.ownsRow S0 3 1 s.vt s.pl.par.length (ZbS (tb s.pl.par.length (T s.pl.uses)))
 gp:ZhX S0 s.vg s.vt s.vs s.pl.grp W
 fl:∀ u∈s.pl.uses,u.2 < s.pl.par.length
structure Zbn (S0:Nat) (s:PlS) (W:World) (s':PlS) (W':World):Prop where
 size:W.heap.size≤W'.heap.size
 rows:∀ k,ZcT s' k→ZcT s k∨W.heap.size≤k
 keep:∀ k cs t f,S0≤k→¬ ZcT s k→W.heap[k]? = some (.cells cs t f)→W'.heap[k]? = some (.cells cs t f)
theorem Zbn.refl (S0:Nat) (s:PlS) (W:World):Zbn S0 s W s W:=⟨Nat.le_refl _,fun _ h=>.inl h,fun _ _ _ _ _ _ h=>h⟩
theorem Zbn.trans {S0:Nat} {a b c:PlS} {W1 W2 W3:World} (h:Zbn S0 a W1 b W2) (k:Zbn S0 b W2 c W3):Zbn S0 a W1 c W3 :=
 ⟨Nat.le_trans h.size k.size,fun i hi=>by
  rcases k.rows i hi with h1 | h1
  ·exact h.rows i h1
  ·exact .inr (Nat.le_trans h.size h1),fun i cs t f hi hn ho=>by
  refine k.keep i cs t f hi (fun hr=>?_) (h.keep i cs t f hi hn ho)
  rcases h.rows i hr with h1 | h1
  ·exact hn h1
  ·have:=(Array.getElem?_eq_some_iff.1 ho).1; omega⟩
theorem Zbn.blk {S0:Nat} {s s':PlS} {W W':World} (h:Zbn S0 s W s' W') {k:Nat} {t:TypeId} {cs:Array Value} (hb:Blk W k t cs) (hk:S0≤k) (hn:¬ ZcT s k):Blk W' k t cs:=h.keep k cs t (0,0) hk hn hb
theorem Zbn.stay {S0:Nat} {s s':PlS} {W W':World} (h:Zbn S0 s W s' W') {k:Nat} (hk:k < W.heap.size) (hn:¬ ZcT s k):¬ ZcT s' k:=fun hr=>by
 rcases h.rows k hr with h1 | h1
 ·exact hn h1
 ·omega
theorem Zbn.of_below {S0:Nat} {s:PlS} {W W':World} (h:Below W.heap.size W W'):Zbn S0 s W s W' :=
 ⟨h.size,fun _ h=>.inl h,fun k _ _ _ _ _ ho=>(h.block k (Array.getElem?_eq_some_iff.1 ho).1).trans ho⟩
theorem Zp {w w':World} {base e size n:Nat} {v:Value} {xs:List Value} (h:w.ownsRow base e size v n xs) (hs:∀ k,v.ownBlock=some k→w'.heap[k]? = w.heap[k]?):w'.ownsRow base e size v n xs:=by
 refine ⟨h.1,?_⟩
 rcases h.2 with hn | ⟨g,cap,cur,rfl,hb,hgg,rest⟩
 ·exact .inl hn
 ·exact .inr ⟨g,cap,cur,rfl,hb,(hs g rfl).trans hgg,rest⟩
theorem ZN {w:World} {base e size n:Nat} {v:Value} {xs:List Value} (h:w.ownsRow base e size v n xs) {k:Nat} (hk:v.ownBlock=some k):∃ cur,Blk w k e cur:=by
 rcases h.2 with ⟨rfl,_⟩ | ⟨g,cap,cur,rfl,hb,hgg,rest⟩
 ·cases hk
 ·injection hk with hk; subst hk; exact ⟨cur,hgg⟩
theorem Zc8 {w:World} {base e size n base' e' size' n':Nat} {v v':Value} {xs xs':List Value} (h:w.ownsRow base e size v n xs) (h':w.ownsRow base' e' size' v' n' xs') (hne:e≠e') {k:Nat} (hk:v.ownBlock=some k):v'.ownBlock≠some k:=fun hk'=>by
 obtain ⟨c1,h1⟩:=ZN h hk;obtain ⟨c2,h2⟩:=ZN h' hk';exact Blk.ne_ h1 h2 hne rfl
theorem Zhu {w w':World} {X:Nat→Prop} {base e size n:Nat} {v:Value} {xs:List Value} (h:w.ownsRow base e size v n xs) (hk:Z0 X w w') (hx:∀ k,v.ownBlock=some k→¬ X k):w'.ownsRow base e size v n xs :=
 Zp h fun k hv=>by
  obtain ⟨c,hb⟩:=ZN h hv;exact (hk.block k _ _ _ (hx k hv) hb).trans hb.symm
theorem ZhX.same {S0:Nat} {vg vt vt':Value} {vs:List Value} {grp:List (List Nat)} {W W':World} (h:ZhX S0 vg vt vs grp W) (hg:∀ k,vg.ownBlock=some k→W'.heap[k]? = W.heap[k]?) (hi:∀ (v:Value) (k n:Nat) (xs:List Value),W.ownsRow S0 3 1 v n xs→v.ownBlock=some k→vt.ownBlock≠some k→W'.heap[k]? = W.heap[k]?∧vt'.ownBlock≠some k):ZhX S0 vg vt' vs grp W':=by
 obtain ⟨h1,h2,h3⟩:=h;refine ⟨Zp h1 hg,h2,fun i g hgi=>?_⟩;obtain ⟨v,q1,q2,q3⟩:=h3 i g hgi;exact ⟨v,q1,Zp q2 fun k hk=>(hi v k _ _ q2 hk (q3 k hk)).1,fun k hk=>(hi v k _ _ q2 hk (q3 k hk)).2⟩
theorem ZH.keepC {S0 bw:Nat} {T:List (KP×Nat)→Nat→Nat} {s:PlS} {W W':World} (h:ZH S0 bw T s W) (hk:Z0 (fun _=>False) W W'):ZH S0 bw T s W' :=
 ⟨h.lo,Nat.le_trans h.hi hk.size,hk.block _ _ _ _ (fun h=>h) h.blk,Zhu h.fr hk (fun _ _ h=>h),Zhu h.tm hk (fun _ _ h=>h),
  h.gp.same (fun k hv=>by
   obtain ⟨c,hb⟩:=ZN h.gp.1 hv
   exact (hk.block k _ _ _ (fun h=>h) hb).trans hb.symm) (fun v k n xs ho hv hne=>⟨by
   obtain ⟨c,hb⟩:=ZN ho hv
   exact (hk.block k _ _ _ (fun h=>h) hb).trans hb.symm,hne⟩),h.fl⟩
theorem ZH.call {S0 bw:Nat} {T:List (KP×Nat)→Nat→Nat} {s:PlS} {W W':World} (h:ZH S0 bw T s W) (hk:Below W.heap.size W W'):ZH S0 bw T s W' :=
 h.keepC ⟨hk.size,fun k _ _ _ _ ho=>(hk.block k (Array.getElem?_eq_some_iff.1 ho).1).trans ho⟩
theorem Zc9 {W W':World} (h:Below W.heap.size W W'):KeepsOthers W W':=⟨h.size,fun k o hk _=>(h.block k (Array.getElem?_eq_some_iff.1 hk).1).trans hk⟩
theorem Zcc.below {S0:Nat} {Y:Nat→Prop} {W W':World} (h:Below W.heap.size W W') (hS:S0≤W.heap.size):Zcc S0 Y W W':=⟨Zl.of (h.mono hS),Zc9 h⟩
def RetFr (S0 bw:Nat) (T:List (KP×Nat)→Nat→Nat) (s:PlS) (f:Int) (W:World) (e:Ending) (W':World):Prop :=
 e = .returned (.int .i64 s.pl.par.length)∧∃ s',s'.pl = { s.pl with par:=s.pl.par++[f] }∧ZH S0 bw T s' W'∧Zbn S0 s W s' W'∧Zcc S0 (fun k=>k=bw) W W'
theorem ZgI:(Tryz.prog.info? 74).map (fun i=>(i.zero,i.size,i.bytes))=some (some (.agg #[.int .i64 0,.int .i64 0,.int .i64 0,.int .i64 0,.int .i64 0]),5,40):=by kernel_rfl
theorem Zcu:(Tryz.prog.info? 3).map (fun i=>(i.zero,i.size,i.bytes))=some (some (.int .i64 0),1,8):=by kernel_rfl
theorem ZhM:(Tryz.prog.info? 32).map (fun i=>(i.zero,i.size,i.bytes))=some (some (.slice none 0 0),1,24):=by kernel_rfl
section
structure ZcV (S0 bw:Nat) (s:PlS) (W W1:World) (vf vt:Value) (nf nt:Nat) (xf xt:List Value):Prop where
 blk:Blk W1 bw 57 #[vf,vt,s.vg]
 fr:W1.ownsRow S0 74 5 vf nf xf
 tm:W1.ownsRow S0 3 1 vt nt xt
 gp:ZhX S0 s.vg vt s.vs s.pl.grp W1
 rf:∀ k,vf.ownBlock=some k→ZcT s k∨W.heap.size≤k
 rt:∀ k,vt.ownBlock=some k→ZcT s k∨W.heap.size≤k
 keep:∀ k cs t f,S0≤k→¬ ZcT s k→W.heap[k]? = some (.cells cs t f)→W1.heap[k]? = some (.cells cs t f)
 step:Zcc S0 (fun k=>k=bw) W W1
section
variable {S0 bw nf nt:Nat} {s:PlS} {W W1 w':World} {vf vt:Value} {xf xt:List Value}
theorem ZcV.size (h:ZcV S0 bw s W W1 vf vt nf nt xf xt):W.heap.size≤W1.heap.size:=h.step.bel.size
theorem ZcV.below (h:ZcV S0 bw s W W1 vf vt nf nt xf xt) (hS:S0≤W.heap.size) (hb:Below W1.heap.size W1 w'):ZcV S0 bw s W w' vf vt nf nt xf xt:=by
 refine ⟨h.blk.call hb,h.fr.below hb,h.tm.below hb,?_,h.rf,h.rt,fun k cs t f hk hn ho=>?_,h.step.trans (Zcc.below hb (Nat.le_trans hS h.size))⟩
 ·refine h.gp.same (fun k hv=>?_) fun v k n xs ho hv hne=>⟨?_,hne⟩
  ·exact hb.block k (h.gp.1.lt k hv).2
  ·exact hb.block k (ho.lt k hv).2
 ·have h1:=h.keep k cs t f hk hn ho;exact (hb.block k (Array.getElem?_eq_some_iff.1 h1).1).trans h1
theorem Zck {w w':World} {row:Option Nat} (hg:w.grownBy w' row) {t:TypeId} (hr:∀ k,row=some k→∃ cur,Blk w k t cur):KeepsOthers w w' :=
 ⟨hg.size,fun k o hk hc=>by
  by_cases h:some k=row
  ·obtain ⟨cur,hb⟩:=hr k h.symm;unfold Blk at hb;rw [hb] at hk
   injection hk with hk
   subst hk
   cases hc
  ·exact (hg.block k (Array.getElem?_eq_some_iff.1 hk).1 h).trans hk⟩
theorem ZeH {w:World} {g:Nat} {t:TypeId} {cs:Array Value} (hb:Blk w g t cs) (o:Nat) (u:Value):KeepsOthers w (w.setCell ⟨g,o,none⟩ u) :=
 ⟨by simp,fun k o' hk hc=>by
  by_cases h:k=g
  ·subst h;unfold Blk at hb;rw [hb] at hk
   injection hk with hk
   subst hk
   cases hc
  ·exact (Below.heap_setCell w _ u k h).trans hk⟩
theorem ZcV.frames (h:ZcV S0 bw s W W1 vf vt nf nt xf xt) (hlo:bw < S0) (hS:S0≤W.heap.size) {vf':Value} {x:List Value} (ho:w'.ownsRow S0 74 5 vf' (nf+1) (xf++x)) (hg:W1.grownBy w' vf.ownBlock) (hat:vf'.ownBlock=vf.ownBlock∨vf'.ownBlock=some W1.heap.size) :
  ZcV S0 bw s W (w'.setCell ⟨bw,0,none⟩ vf') vf' vt (nf+1) nt (xf++x) xt:=by
 have hz:=h.size;have hne:some bw≠vf.ownBlock:=fun e=>Zg h.fr h.blk (by decide) e.symm;have hb':=h.blk.grown hg hne;have hfar:∀ k,k≠bw→(w'.setCell ⟨bw,0,none⟩ vf').heap[k]? = w'.heap[k]?:=fun k hk=>Below.heap_setCell w' _ vf' k hk;have hrow:∀ k,vf'.ownBlock=some k→k≠bw:=fun k hk e=>Zg ho hb' (by decide) (e ▸ hk);have hbk:∀ k,k < W1.heap.size→k≠bw→vf.ownBlock≠some k→(w'.setCell ⟨bw,0,none⟩ vf').heap[k]? = W1.heap[k]?:=fun k hk hkb hkv=>(hfar k hkb).trans (hg.block k hk (fun e=>hkv e.symm))
 have hown:∀ {base e size n:Nat} {v:Value} {xs:List Value},W1.ownsRow base e size v n xs→e≠74→e≠57→∀ k,v.ownBlock=some k→(w'.setCell ⟨bw,0,none⟩ vf').heap[k]? = W1.heap[k]?:=fun hv he1 he2 k hk=>by
  refine hbk k (hv.lt k hk).2 (fun e=>Zg hv h.blk he2 (e ▸ hk)) (fun e=>Zc8 hv h.fr he1 hk e)
 refine ⟨by simpa using hb'.set_ 0 vf',Zp ho fun k hk=>hfar k (hrow k hk),Zp h.tm (hown h.tm (by decide) (by decide)),?_,fun k hk=>?_,h.rt,fun k cs t f hk hn hob=>?_,h.step.trans ?_⟩
 ·refine h.gp.same (fun k hv=>?_) fun v k n xs hv hk hne=>⟨hown hv (by decide) (by decide) k hk,hne⟩
  exact hown h.gp.1 (by decide) (by decide) k hv
 ·rcases hat with e | e
  ·exact h.rf k (e ▸ hk)
  ·rw [e] at hk; injection hk with hk; exact .inr (by omega)
 ·have h1:=h.keep k cs t f hk hn hob;refine (hbk k (Array.getElem?_eq_some_iff.1 h1).1 (by omega) fun e=>?_).trans h1
  rcases h.rf k e with h2 | h2
  ·exact hn h2
  ·have:=(Array.getElem?_eq_some_iff.1 hob).1; omega
 ·refine ⟨⟨hg.os,hg.tape,hg.output,by simpa using hg.size,fun k hk hkb=>?_⟩,(Zck hg fun k hk=>ZN h.fr hk).trans (ZeH hb' 0 vf')⟩;exact hbk k (by omega) hkb (fun e=>by have:=(h.fr.lt k e).1; omega)
theorem ZcV.temps (h:ZcV S0 bw s W W1 vf vt nf nt xf xt) (hlo:bw < S0) (hS:S0≤W.heap.size) {vt':Value} {x:List Value} (ho:w'.ownsRow S0 3 1 vt' (nt+1) (xt++x)) (hg:W1.grownBy w' vt.ownBlock) (hat:vt'.ownBlock=vt.ownBlock∨vt'.ownBlock=some W1.heap.size) :
  ZcV S0 bw s W (w'.setCell ⟨bw,1,none⟩ vt') vf vt' nf (nt+1) xf (xt++x):=by
 have hz:=h.size;have hne:some bw≠vt.ownBlock:=fun e=>Zg h.tm h.blk (by decide) e.symm;have hb':=h.blk.grown hg hne;have hfar:∀ k,k≠bw→(w'.setCell ⟨bw,1,none⟩ vt').heap[k]? = w'.heap[k]?:=fun k hk=>Below.heap_setCell w' _ vt' k hk;have hrow:∀ k,vt'.ownBlock=some k→k≠bw:=fun k hk e=>Zg ho hb' (by decide) (e ▸ hk);have hbk:∀ k,k < W1.heap.size→k≠bw→vt.ownBlock≠some k→(w'.setCell ⟨bw,1,none⟩ vt').heap[k]? = W1.heap[k]?:=fun k hk hkb hkv=>(hfar k hkb).trans (hg.block k hk (fun e=>hkv e.symm))
 have hown:∀ {base e size n:Nat} {v:Value} {xs:List Value},W1.ownsRow base e size v n xs→e≠3→e≠57→∀ k,v.ownBlock=some k→(w'.setCell ⟨bw,1,none⟩ vt').heap[k]? = W1.heap[k]?:=fun hv he1 he2 k hk=>by
  refine hbk k (hv.lt k hk).2 (fun e=>Zg hv h.blk he2 (e ▸ hk)) (fun e=>Zc8 hv h.tm he1 hk e)
 refine ⟨by simpa using hb'.set_ 1 vt',Zp h.fr (hown h.fr (by decide) (by decide)),Zp ho fun k hk=>hfar k (hrow k hk),?_,h.rf,fun k hk=>?_,fun k cs t f hk hn hob=>?_,h.step.trans ?_⟩
 ·refine h.gp.same (fun k hv=>?_) fun v k n xs hv hk hne=>⟨hbk k (hv.lt k hk).2 (fun e=>Zg hv h.blk (by decide) (e ▸ hk)) hne,fun e=>?_⟩
  ·exact hown h.gp.1 (by decide) (by decide) k hv
  ·rcases hat with e2 | e2
   ·exact hne (e2 ▸ e)
   ·rw [e2] at e; injection e with e; have:=(hv.lt k hk).2; omega
 ·rcases hat with e | e
  ·exact h.rt k (e ▸ hk)
  ·rw [e] at hk; injection hk with hk; exact .inr (by omega)
 ·have h1:=h.keep k cs t f hk hn hob;refine (hbk k (Array.getElem?_eq_some_iff.1 h1).1 (by omega) fun e=>?_).trans h1
  rcases h.rt k e with h2 | h2
  ·exact hn h2
  ·have:=(Array.getElem?_eq_some_iff.1 hob).1; omega
 ·refine ⟨⟨hg.os,hg.tape,hg.output,by simpa using hg.size,fun k hk hkb=>?_⟩,(Zck hg fun k hk=>ZN h.tm hk).trans (ZeH hb' 1 vt')⟩;exact hbk k (by omega) hkb (fun e=>by have:=(h.tm.lt k e).1; omega)
theorem ZcV.start {T:List (KP×Nat)→Nat→Nat} (h:ZH S0 bw T s W):ZcV S0 bw s W W s.vf s.vt s.pl.par.length s.pl.par.length (Zem (Zan s.pl.par)) (ZbS (tb s.pl.par.length (T s.pl.uses))) :=
 ⟨h.blk,h.fr,h.tm,h.gp,fun k hk=>.inl (.inl hk),fun k hk=>.inl (.inr (.inl hk)),fun _ _ _ _ _ _ h=>h,Zcc.refl _ _ _⟩
theorem ZcV.done {T:List (KP×Nat)→Nat→Nat} {f:Int} (h0:ZH S0 bw T s W) (hT:T s.pl.uses s.pl.par.length=0)
  (h:ZcV S0 bw s W W1 vf vt (s.pl.par.length+1) (s.pl.par.length+1) (Zem (Zan s.pl.par)++[.int .i64 f,.int .i64 0,.int .i64 0,.int .i64 5,.int .i64 0]) (ZbS (tb s.pl.par.length (T s.pl.uses))++[.int .i64 0])) :
  ∃ s',s'.pl = { s.pl with par:=s.pl.par++[f] }∧s'.vf=vf∧ZH S0 bw T s' W1∧Zbn S0 s W s' W1∧Zcc S0 (fun k=>k=bw) W W1:=by
 refine ⟨⟨{ s.pl with par:=s.pl.par++[f] },vf,vt,s.vg,s.vs⟩,rfl,rfl,⟨h0.lo,Nat.le_trans h0.hi h.size,h.blk,?_,?_,h.gp,fun u hu=>?_⟩,⟨h.size,fun k hk=>?_,h.keep⟩,h.step⟩
 ·have:=h.fr;simp only [List.length_append,List.length_singleton,Zan,List.map_append,List.map_cons,List.map_nil]
  simpa [Zem,Zan,FrL.cells] using this
 ·have:=h.tm;simp only [List.length_append,List.length_singleton];rw [Zku,hT]
  simpa [ZbS,Zmc] using this
 ·have:=h0.fl u hu;simp only [List.length_append,List.length_singleton]
  omega
 ·rcases hk with hk | hk | hk
  ·exact h.rf k hk
  ·exact h.rt k hk
  ·exact .inl (.inr (.inr hk))
end
theorem ZnL (S0 bw:Nat) (T:List (KP×Nat)→Nat→Nat) (s:PlS) (f:Int) (hf:Zy f) (W:World) (h:ZH S0 bw T s W) (hT:T s.pl.uses s.pl.par.length=0) (hl:s.pl.par.length≤1000000) :
  Calls Tryz.prog 43 #[.pointer (some ⟨bw,0,none⟩),.int .i64 f] W (RetFr S0 bw T s f W):=by
 obtain ⟨i0,hi0,hz0,hz1,hz2⟩:=info_parts ZgI;obtain ⟨j0,hj0,hy0,hy1,hy2⟩:=info_parts Zcu;have HP:=Lh h;have HT:=Lh hT;have M0:=Lh (ZcV.start h);have hlo:=h.lo;have hhi:=h.hi;obtain ⟨A1,c1,hvf⟩:=Zv h.fr;obtain ⟨A2,c2,hvt⟩:=Zv h.tm;have b0:=h.blk
 obtain ⟨n,hn⟩:∃ n,s.pl.par.length=n:=⟨_,rfl⟩
 have HN:=Lh hn;rw [hvf,hvt] at M0 b0;rw [hn] at hl M0 b0;generalize hxf:Zem (Zan s.pl.par)=xf at M0;generalize hxt:ZbS (tb n (T s.pl.uses))=xt at M0;have HXF:=Lh hxf;have HXT:=Lh hxt;have hbl:=b0.lt;clear h hT hxf hxt hvf hvt;obtain ⟨e0,e1,e2⟩:=b0.c3;simp at e0 e1 e2;obtain ⟨f0,f1,f2⟩:=b0.z3;clear b0 hn
 have hone:∀ u∈(#[.int .i64 f,.int .i64 0,.int .i64 0,.int .i64 5,.int .i64 0]:Array Value).toList,u.oneCell'=true:=by simp [Value.oneCell']
 have hs1:n+1≤1099511627776:=by omega
 have hs2:(n+1) * 40≤140737488355328:=by omega
 have hs3:(n+1) * 8≤140737488355328:=by omega
 have M1:=Lh (M0.out.below hhi ((Below.refl _ W).alloc (Nat.le_refl _) (.cells #[.int .i64 f,.int .i64 0,.int .i64 0,.int .i64 5,.int .i64 0] 74)));go_enter Tryz.func43,Tryz.ntmps43
 go_upto_region 1 with fail
 go_upto_region 2 with (at_builtin; refine Zcb Tryz.underlying36 hi0 hz0 hz1 hz2 rfl (by decide) M1.out.fr (by simp; omega) rfl (.tmp 9) (.tmp 12) rfl rfl W.heap.size 1 1 #[.int .i64 f,.int .i64 0,.int .i64 0,.int .i64 5,.int .i64 0] rfl (Blk.new W _ _) rfl hone hs1 hs2 ?_
                        intro v1 w1 ho1 hg1 hb1 hat1;obtain ⟨A3,c3,rfl⟩:=Zv ho1;have M2:=Lh (M1.out.frames hlo hhi ho1 hg1 hat1);have b1:=M1.out.blk.grown hg1 (fun e=>Zg M1.out.fr M1.out.blk (by decide) e.symm);have d0:=b1.cell 0;have g0:=b1.frozen 0;have l1:=b1.lt;simp at d0
                        clear ho1 hg1 hb1 hat1 b1)
 have hz2:W.heap.size≤(w1.setCell ⟨bw,0,none⟩ (.slice A3 (n+1) c3)).heap.size:=M2.out.size;generalize w1.setCell ⟨bw,0,none⟩ (.slice A3 (n+1) c3)=w2 at *;have M3:=Lh (M2.out.below hhi ((Below.refl _ w2).alloc (Nat.le_refl _) (.cells #[.int .i64 0] 3)));have b2:=M2.out.blk;clear e0 e1 e2 f0 f1 f2 M0 M1 d0 g0 l1;obtain ⟨e0,e1,e2⟩:=b2.c3;simp at e0 e1 e2;obtain ⟨f0,f1,f2⟩:=b2.z3;have l2:=b2.lt;clear b2
 go_upto_region 3 with (at_builtin; refine Zcb Tryz.underlying32 hj0 hy0 hy1 hy2 rfl (by decide) M3.out.tm (by simp; omega) rfl (.tmp 20) (.tmp 21) rfl rfl w2.heap.size 1 1 #[.int .i64 0] rfl (Blk.new w2 _ _) rfl (by simp [Value.oneCell']) hs1 hs3 ?_
                        intro v4 w4 ho4 hg4 hb4 hat4;obtain ⟨A5,c5,rfl⟩:=Zv ho4;have M5:=Lh (M3.out.temps hlo hhi ho4 hg4 hat4);have b4:=M3.out.blk.grown hg4 (fun e=>Zg M3.out.tm M3.out.blk (by decide) e.symm);have d1:=b4.cell 1;have g1:=b4.frozen 1;have l4:=b4.lt;simp at d1
                        clear ho4 hg4 hb4 hat4 b4)
 generalize w4.setCell ⟨bw,1,none⟩ (.slice A5 (n+1) c5)=w5 at *;have b5:=M5.out.blk;clear e0 e1 e2 f0 f1 f2 M2 M3 d1 g1 l4;obtain ⟨e0,e1,e2⟩:=b5.c3;simp at e0 e1 e2;have l5:=b5.lt;clear b5;have HM:Hid (ZcV S0 bw s W w5 (.slice A3 (n+1) c3) (.slice A5 (n+1) c5) (n+1) (n+1) (xf++[.int .i64 f,.int .i64 0,.int .i64 0,.int .i64 5,.int .i64 0]) (xt++[.int .i64 0])):=M5;rw [← HXF.out,← HXT.out,← HN.out] at HM;obtain ⟨s',h1,h2,h3,h4,h5⟩:=ZcV.done HP.out HT.out HM.out;have HE:Hid (∃ s',s'.pl = { s.pl with par:=s.pl.par++[f] }∧ZH S0 bw T s' w5∧Zbn S0 s W s' w5∧Zcc S0 (fun k=>k=bw) W w5):=Lh ⟨s',h1,h3,h4,h5⟩;clear h1 h2 h3 h4 h5 HM M5
 go_wp2
 go_ret;exact ⟨by rw [HN.out]; rfl,HE.out⟩
end
theorem Zcx (f:Nat):∀ (a b:List KP) (w:Zr),ZE f (a++b) w=ZE f b (ZE f a w)
 | [],b,w=>by rw [List.nil_append,ZE]
 | x :: a,b,w=>by rw [List.cons_append,ZE,ZE,Zcx f a b]
theorem Zcy (f:Nat):∀ (a b:List KG) (w:Zr),ZF f (a++b) w=ZF f b (ZF f a w)
 | [],b,w=>by rw [List.nil_append,ZF]
 | x :: a,b,w=>by rw [List.cons_append,ZF,ZF,Zcy f a b]
theorem ZcA (f:Nat):∀ (a b:List KP) (w:Zr) (ch:List Nat),Zj f (a++b) w ch=Zj f b (Zj f a w ch).1 (Zj f a w ch).2
 | [],b,w,ch=>by rw [List.nil_append,Zj]
 | x :: a,b,w,ch=>by rw [List.cons_append,Zj,Zj,ZcA f a b]
theorem ZM {α:Type} {l:List α} {k:Nat} {x:α} (h:l[k]? = some x):l.take (k+1)=l.take k++[x]:=by rw [List.take_add_one,h,Option.toList_some]
theorem ZdN (f:Nat) {l:List KP} {k:Nat} {x:KP} (h:l[k]? = some x) (w:Zr):ZE f (l.take (k+1)) w=Z7 f x (ZE f (l.take k) w):=by
 rw [ZM h,Zcx,ZE,ZE]
theorem ZdO (f:Nat) {l:List KG} {k:Nat} {x:KG} (h:l[k]? = some x) (w:Zr):ZF f (l.take (k+1)) w=Zga f x (ZF f (l.take k) w):=by
 rw [ZM h,Zcy,ZF,ZF]
def ZaC (f:Nat) (w:Zr):Zr:={ w with par:=w.par++[(f:Int)] }
theorem ZdP (f:Nat) {l:List KP} {k:Nat} {x:KP} (h:l[k]? = some x) (w:Zr) (ch:List Nat):Zj f (l.take (k+1)) w ch=(Z7 (Zj f (l.take k) w ch).1.par.length x (ZaC f (Zj f (l.take k) w ch).1),(Zj f (l.take k) w ch).2++[(Zj f (l.take k) w ch).1.par.length]):=by
 rw [ZM h,ZcA,Zj,Zj]
 rfl
theorem ZcH {f:Nat} {w:Zr} (h:Zak w) (hf:f < w.par.length):Zak (ZaC f w)∧Ext w (ZaC f w):=⟨h.frame hf,List.prefix_append _ _,List.prefix_refl _,List.prefix_refl _⟩
theorem ZbZ (f:Nat):∀ (l:List KP) (w:Zr),Zak w→f < w.par.length→Zak (ZE f l w)∧Ext w (ZE f l w)
 | [],w,h,_=>by rw [ZE]; exact ⟨h,Ext.refl _⟩
 | x :: l,w,h,hf=>by
   rw [ZE];obtain ⟨h1,h2⟩:=ZaW x f w h hf;obtain ⟨h3,h4⟩:=ZbZ f l _ h1 (Nat.lt_of_lt_of_le hf (ZI h2.1));exact ⟨h3,h2.trans h4⟩
theorem Zjv (f:Nat) (g:KG) (w:Zr) (h:Zak w) (hf:f < w.par.length):Zak (Zga f g w)∧Ext w (Zga f g w):=by
 rw [Zcz]
 match g.body with
 | []=>exact ⟨h,Ext.refl _⟩
 | p :: _=>exact ZaW p f w h hf
theorem Zb0 (f:Nat):∀ (l:List KG) (w:Zr),Zak w→f < w.par.length→Zak (ZF f l w)∧Ext w (ZF f l w)
 | [],w,h,_=>by rw [ZF]; exact ⟨h,Ext.refl _⟩
 | x :: l,w,h,hf=>by
   rw [ZF];obtain ⟨h1,h2⟩:=Zjv f x w h hf;obtain ⟨h3,h4⟩:=Zb0 f l _ h1 (Nat.lt_of_lt_of_le hf (ZI h2.1));exact ⟨h3,h2.trans h4⟩
theorem Zb1 (f:Nat):∀ (l:List KP) (w:Zr) (ch:List Nat),Zak w→f < w.par.length→(∀ c∈ch,w.par[c]? = some (f:Int))→Zak (Zj f l w ch).1∧Ext w (Zj f l w ch).1∧(∀ c∈(Zj f l w ch).2,(Zj f l w ch).1.par[c]? = some (f:Int))∧(Zj f l w ch).2.length=ch.length+l.length
 | [],w,ch,h,_,hc=>by rw [Zj]; exact ⟨h,Ext.refl _,hc,rfl⟩
 | x :: l,w,ch,h,hf,hc=>by
   rw [Zj];obtain ⟨h0,h00⟩:=ZcH h hf;obtain ⟨h1,h2⟩:=ZaW x w.par.length (ZaC f w) h0 (by simp [ZaC]);have h3:=h00.trans h2
   obtain ⟨h4,h5,h6,h7⟩:=Zb1 f l _ (ch++[w.par.length]) h1 (Nat.lt_of_lt_of_le hf (ZI h3.1)) (by
    intro c hcm
    rcases List.mem_append.1 hcm with hcm | hcm
    ·exact Zb5 h3.1 (hc c hcm)
    ·simp at hcm;subst hcm
     exact Zb5 h2.1 (by simp [ZaC]))
   exact ⟨h4,h3.trans h5,h6,h7.trans (by simp; omega)⟩
theorem Zez (f:Nat):∀ (l:List KP) (w:Zr) (ch:List Nat),Zak w→f < w.par.length→(∀ c∈ch,w.par[c]? = some (f:Int))→w.par.length+l.length≤(Zj f l w ch).1.par.length
 | [],w,ch,h,_,hc=>by rw [Zj]; exact Nat.le_refl _
 | x :: l,w,ch,h,hf,hc=>by
   rw [Zj];obtain ⟨h0,h00⟩:=ZcH h hf;obtain ⟨h1,h2⟩:=ZaW x w.par.length (ZaC f w) h0 (by simp [ZaC]);have h3:=h00.trans h2
   have h4:=Zez f l _ (ch++[w.par.length]) h1 (Nat.lt_of_lt_of_le hf (ZI h3.1)) (by
    intro c hcm
    rcases List.mem_append.1 hcm with hcm | hcm
    ·exact Zb5 h3.1 (hc c hcm)
    ·simp at hcm;subst hcm
     exact Zb5 h2.1 (by simp [ZaC]))
   have h5:=ZI h2.1;simp only [ZaC,List.length_append,List.length_singleton] at h5 h4;simp only [List.length_cons]
   omega
theorem Zfi {f k:Nat} {l:List KP} {x:KP} (h:l[k]? = some x) {w FP:Zr} (ht:Zak w) (hf:f < w.par.length) (he:Ext (ZE f l w) FP):Zak (ZE f (l.take k) w)∧f < (ZE f (l.take k) w).par.length∧Ext (Z7 f x (ZE f (l.take k) w)) FP:=by
 obtain ⟨h1,h2⟩:=ZbZ f (l.take k) w ht hf;have hf1:=Nat.lt_of_lt_of_le hf (ZI h2.1);obtain ⟨h3,h4⟩:=ZbZ f (l.take (k+1)) w ht hf
 have h5:ZE f l w=ZE f (l.drop (k+1)) (ZE f (l.take (k+1)) w):=by rw [← Zcx,List.take_append_drop]
 obtain ⟨-,h6⟩:=ZbZ f (l.drop (k+1)) _ h3 (Nat.lt_of_lt_of_le hf (ZI h4.1));rw [← h5,ZdN f h] at h6;exact ⟨h1,hf1,h6.trans he⟩
theorem Zfj {f k:Nat} {l:List KG} {x:KG} (h:l[k]? = some x) {w FP:Zr} (ht:Zak w) (hf:f < w.par.length) (he:Ext (ZF f l w) FP):Zak (ZF f (l.take k) w)∧f < (ZF f (l.take k) w).par.length∧Ext (Zga f x (ZF f (l.take k) w)) FP:=by
 obtain ⟨h1,h2⟩:=Zb0 f (l.take k) w ht hf;have hf1:=Nat.lt_of_lt_of_le hf (ZI h2.1);obtain ⟨h3,h4⟩:=Zb0 f (l.take (k+1)) w ht hf
 have h5:ZF f l w=ZF f (l.drop (k+1)) (ZF f (l.take (k+1)) w):=by rw [← Zcy,List.take_append_drop]
 obtain ⟨-,h6⟩:=Zb0 f (l.drop (k+1)) _ h3 (Nat.lt_of_lt_of_le hf (ZI h4.1));rw [← h5,ZdO f h] at h6;exact ⟨h1,hf1,h6.trans he⟩
theorem Zfk {f k:Nat} {l:List KP} {x:KP} (h:l[k]? = some x) {w FP:Zr} (ht:Zak w) (hf:f < w.par.length) (he:Ext (Zj f l w []).1 FP) :
  Zak (Zj f (l.take k) w []).1∧f < (Zj f (l.take k) w []).1.par.length∧Ext (Z7 (Zj f (l.take k) w []).1.par.length x (ZaC f (Zj f (l.take k) w []).1)) FP∧(Zj f (l.take k) w []).2.length=k:=by
 have hk:=(List.getElem?_eq_some_iff.1 h).1;obtain ⟨h1,h2,-,hlen⟩:=Zb1 f (l.take k) w [] ht hf (by simp);have hf1:=Nat.lt_of_lt_of_le hf (ZI h2.1);obtain ⟨h3,h4,h7,-⟩:=Zb1 f (l.take (k+1)) w [] ht hf (by simp)
 have h5:Zj f l w []=Zj f (l.drop (k+1)) (Zj f (l.take (k+1)) w []).1 (Zj f (l.take (k+1)) w []).2:=by rw [← ZcA,List.take_append_drop]
 obtain ⟨-,h6,-⟩:=Zb1 f (l.drop (k+1)) _ (Zj f (l.take (k+1)) w []).2 h3 (Nat.lt_of_lt_of_le hf (ZI h4.1)) h7;rw [← h5,ZdP f h] at h6;exact ⟨h1,hf1,h6.trans he,by rw [hlen,List.length_take]; simp; omega⟩
def Zdn (p:KP):Prop:=∀ g∈p.g,∃ q,g.body=[q]
theorem Zd0 {vs:List ZZ} {nc:Nat} {p:KP} (h:ZW vs nc p=true):Zdn p:=fun g hg=>by
 obtain ⟨c,hgb⟩:=Z3 h g hg;unfold ZR at hgb;simp only [Bool.and_eq_true,decide_eq_true_eq] at hgb;have h1:=hgb.1.1
 match hb:g.body,h1 with
 | [q],_=>exact ⟨q,rfl⟩
def ZdQ (f:Nat) (p:KP) (w:Zr):Zr:={ w with uses:=w.uses++[(p,f)] }
def Zbz (f:Nat) (p:KP) (w:Zr):Zr:=if ZeX p then (Zj f p.l (ZdQ f p w) []).1 else ZE f p.l (ZdQ f p w)
def ZbD (f:Nat) (p:KP) (w:Zr):List Nat:=if ZeX p then (Zj f p.l (ZdQ f p w) []).2 else []
def ZcR (f:Nat) (p:KP) (w:Zr):Zr:=if ZeX p then { Zbz f p w with grp:=(Zbz f p w).grp++[ZbD f p w],out:=(Zbz f p w).out++[f] } else Zbz f p w
theorem Zdo (f:Nat) (p:KP) (w:Zr):Z7 f p w=ZF f p.g (ZcR f p w):=by
 rw [Zd4];unfold ZcR Zbz ZbD ZdQ
 by_cases h:ZeX p
 ·simp only [if_pos h]
 ·simp only [if_neg h]
theorem Zgr (f:Nat) (p:KP) {w FP:Zr} (ht:Zak w) (hf:f < w.par.length) (he:Ext (Z7 f p w) FP) :
  (Zak (ZdQ f p w)∧f < (ZdQ f p w).par.length∧Ext (ZdQ f p w) FP)∧(Zak (Zbz f p w)∧f < (Zbz f p w).par.length∧Ext (Zbz f p w) FP)∧(Zak (ZcR f p w)∧f < (ZcR f p w).par.length∧Ext (ZcR f p w) FP∧Ext (ZF f p.g (ZcR f p w)) FP):=by
 have h1:Zak (ZdQ f p w):=ht.use hf;have hf1:f < (ZdQ f p w).par.length:=hf
 have h2:Zak (Zbz f p w)∧Ext (ZdQ f p w) (Zbz f p w)∧(ZeX p=true→∀ c∈ZbD f p w,(Zbz f p w).par[c]? = some (f:Int)):=by
  unfold Zbz ZbD
  by_cases h:ZeX p
  ·simp only [if_pos h];obtain ⟨a,b,c,-⟩:=Zb1 f p.l (ZdQ f p w) [] h1 hf1 (by simp);exact ⟨a,b,fun _=>c⟩
  ·simp only [if_neg h];obtain ⟨a,b⟩:=ZbZ f p.l (ZdQ f p w) h1 hf1;exact ⟨a,b,fun hp=>absurd hp h⟩
 have hf2:=Nat.lt_of_lt_of_le hf1 (ZI h2.2.1.1)
 have h3:Zak (ZcR f p w)∧Ext (Zbz f p w) (ZcR f p w):=by
  unfold ZcR
  by_cases h:ZeX p
  ·rw [if_pos h];exact ⟨h2.1.group hf2 (h2.2.2 h),List.prefix_refl _,List.prefix_refl _,List.prefix_append _ _⟩
  ·rw [if_neg h];exact ⟨h2.1,Ext.refl _⟩
 have hf3:=Nat.lt_of_lt_of_le hf2 (ZI h3.2.1);obtain ⟨-,h4⟩:=Zb0 f p.g (ZcR f p w) h3.1 hf3;rw [Zdo] at he;have e3:=h4.trans he;have e2:=h3.2.trans e3;exact ⟨⟨h1,hf1,h2.2.1.trans e2⟩,⟨h2.1,hf2,e2⟩,h3.1,hf3,e3,he⟩
def Zqv {α:Type} (F:Fence) (n:Nat) (P:Program) (gf:Nat) (lb:Array Value) (encs:α→Array Value) (X:Nat→Prop) (D:World→Prop) (xs:List α) (w:World):Prop :=
 ∀ (l:Nat) (J Jx:List α→World→Prop) (W:World),Below w.heap.size w W→ZqV W.heap.size J→ZqV W.heap.size Jx→(∀ pre W1,J pre W1→D W1) →
  (∀ pre x r W1,J pre W1→xs=pre++x :: r→YieldAt F (n - 1) P l (encs x) W1 fun e W'=>(e = .returned (.bool true)∧J (pre++[x]) W'∧Z0 X W1 W')∨(e = .returned (.bool false)∧Jx (pre++[x]) W')) →
  J [] W→CallsIn F n P gf (#[.func (.yield l) #[] #[]]++lb) W fun e W'=>(∃ v,e = .returned v)∧(J xs W'∨∃ pre x r,xs=pre++x :: r∧Jx (pre++[x]) W')
theorem Zfx:∀ {l:List KE} {inside left r:Nat},(∀ e∈l,∀ (a r:Nat),ZU inside a e=some r→r≤a)→Z8 inside left l=some r→r≤left
 | [],inside,left,r,_,h=>by rw [Z8] at h; cases h; exact Nat.le_refl _
 | x :: l,inside,left,r,hall,h=>by
   rw [Z8] at h
   cases hx:ZU inside left x with
   | none=>rw [hx] at h; cases h
   | some y =>
     rw [hx] at h;have h1:=hall x (by simp) _ _ hx;have h2:=Zfx (l:=l) (fun e he=>hall e (by simp [he])) h
     omega
theorem Zec (e:KE):∀ (inside left r:Nat),ZU inside left e=some r→r≤left:=by
 induction e using KE.ind with
 | h e ih =>
   intro inside left r h;rw [Zci] at h
   split at h
   ·cases h
   ·have:=Zfx (fun x hx a r=>ih x hx (inside+1) a r) h
    omega
theorem Zc6:∀ (a b:List KE) (inside left:Nat),Z8 inside left (a++b)=match Z8 inside left a with
  | none=>none
  | some r=>Z8 inside r b
 | [],b,inside,left=>by rw [Z8]; rfl
 | x :: a,b,inside,left=>by
   rw [List.cons_append,Z8,Z8]
   cases ZU inside left x with
   | none=>rfl
   | some y=>exact Zc6 a b inside y
theorem Zcp {l:List KE} {k inside left r:Nat} {x:KE} (h:l[k]? = some x) (hr:Z8 inside left (l.take k)=some r):Z8 inside left (l.take (k+1))=ZU inside r x:=by
 rw [List.take_add_one,h,Option.toList_some,Zc6,hr]
 simp only
 rw [Z8]
 cases ZU inside r x with
 | none=>rfl
 | some y=>simp only; rw [Z8]
theorem Zdt {l:List KE} {k inside left r:Nat} {x:KE} (h:l[k]? = some x) (hr:Z8 inside left (l.take k)=some r) (hx:ZU inside r x=none):Z8 inside left l=none:=by
 have h1:Z8 inside left (l.take (k+1))=none:=by rw [Zcp h hr,hx]
 have h2:=Zc6 (l.take (k+1)) (l.drop (k+1)) inside left;rw [List.take_append_drop,h1] at h2;exact h2
theorem Zba {w:World} {B:Nat} {A:Option Addr} {l:List KE} (h:Zbm w B A l) {k:Nat} (hk:k < l.length) :
  ∃ b off x,A=some ⟨b,off,none⟩∧b < B∧l[k]? = some x∧x.In w B∧w.cell? ⟨b,off+k * 6,none⟩=some (.int .u8 x.kind)∧w.cell? ⟨b,off+k * 6+1,none⟩=some (.int .u8 x.oper)∧w.cell? ⟨b,off+k * 6+2,none⟩=some (.int .u8 x.tk) ∧
   w.cell? ⟨b,off+k * 6+3,none⟩=some (.int .i32 x.n)∧w.cell? ⟨b,off+k * 6+4,none⟩=some (.int .i64 x.v)∧w.cell? ⟨b,off+k * 6+5,none⟩=some (.slice x.A x.l.length x.c):=by
 obtain ⟨b,off,x,h1,h2,h3,h4,hc⟩:=Zln h hk;exact ⟨b,off,x,h1,h2,h3,h4,hc 0 _ rfl,hc 1 _ rfl,hc 2 _ rfl,hc 3 _ rfl,hc 4 _ rfl,hc 5 _ rfl⟩
def ZqF (R:Option Nat) (bl:Nat) (w:World) (e:Ending) (w':World):Prop :=
 Za0 bl w w'∧∃ (i z:Int),e = .returned (.int .i64 i)∧Blk w' bl 3 #[.int .i64 z]∧(R=none∧0≤i∨∃ r:Nat,R=some r∧i = -1∧z=r)
def Zn6 (l:List KE) (deep left bl k:Nat) (w:World):Prop:=∃ r:Nat,r≤256∧Z8 (deep+1) left (l.take k)=some r∧Blk w bl 3 #[.int .i64 r]
theorem ZoP (l:List KE) (A:Option Addr) (c:Nat) (hall:∀ x∈l,ZnF x) (deep left bl bv bd B:Nat) (w:World) (hd:deep≤31) (hl:left≤256) (hi:Zbm w B A l) (hB:B≤bl) (hlv:bl≠bv) (hld:bl≠bd)
  (hbl:Blk w bl 3 #[.int .i64 left]) (hbv:Blk w bv 116 (Zkk bl bv)) (hbd:Blk w bd 3 #[.int .i64 ((deep:Int)+1)]) :
  Calls Tryz.prog 118 #[.slice A l.length c,.func (.func 113) #[] #[.pointer (some ⟨bv,0,none⟩),.pointer (some ⟨bd,0,none⟩)]] w (ZqF (Z8 (deep+1) left l) bl w):=by
 have hlen:=hi.1;unfold ZB at hlen;have HI:=Lh hi;have HV:=Lh hbv;have HD:=Lh hbd;have L0:Hid (Zn6 l deep left bl 0 w):=Lh ⟨left,hl,by rw [List.take_zero,Z8],hbl⟩;have HLT:=Lh hbl.lt;have HALL:=Lh hall
 obtain ⟨n,hn⟩:∃ n,l.length=n:=⟨_,rfl⟩
 have HN:=Lh hn;rw [hn] at hlen ⊢;clear hi hbv hbd hbl hn hall;go_enter Tryz.func118,Tryz.ntmps118
 go_wp2_with fail
 go_loopw [8] (fun i wr=>∃ k:Nat,k≤n∧i = .int .i64 k∧Hid (Zn6 l deep left bl k wr)∧Hid (Za0 bl w wr)) (fun i _=>n - (intOf i).toNat)
 case atStart=>exact ⟨0,Nat.zero_le _,rfl,L0,Lh (Za0.refl _ _)⟩
 case round =>
  clear L0;obtain ⟨k,hk,rfl,L,U⟩:=hrel
  by_cases hlt:k < n
  ·have hltI:(k:Int) < n:=by omega
   have hbW:=(U.out.below HLT.out).mono hB;obtain ⟨b,off,x,rfl,hb,hx,hin,c0,c1,c2,c3,c4,c5⟩:=Zba (HI.out.below hbW) (by rw [HN.out]; exact hlt);obtain ⟨r,hr,hR,hbl⟩:=L.out;have HX:=Lh hx;have HR:=Lh hR;have HC:=Lh (ZpS x (HALL.out x (List.mem_of_getElem? hx)) deep r bl bv bd B wr hd hr hin hB hlv hbl (HV.out.upd U.out (Ne.symm hlv)) (HD.out.upd U.out (Ne.symm hld)));simp only [KE.cells] at HC;clear hbW hin hx hR hbl L
   cases hq:ZU (deep+1) r x with
   | none =>
     rw [hq] at HC;have HQ:=Lh hq;clear hq
     go_wp2_with (go_at_call 113; (with_reducible refine HC.out.mono ?_); rintro e w1 ⟨hu,b1,z,rfl,hb1,hR⟩
                  obtain rfl:b1=true:=by rcases hR with h | ⟨_,h,_⟩; exact h.2; cases h
                  have HU:=Lh (U.out.trans hu);have HB1:=Lh hb1
                  clear hu hb1 hR)
     go_ret;exact ⟨HU.out,k,z,rfl,HB1.out,.inl ⟨Zdt HX.out HR.out HQ.out,by omega⟩⟩
   | some r' =>
     rw [hq] at HC;have HQ:=Lh hq;clear hq
     go_wp2_with (go_at_call 113; (with_reducible refine HC.out.mono ?_); rintro e w1 ⟨hu,b1,z,rfl,hb1,hR⟩
                  obtain ⟨rfl,rfl⟩:b1=false∧z=r':=by rcases hR with ⟨h,_⟩ | ⟨_,h,h1,h2⟩; cases h; cases h; exact ⟨h1,h2⟩
                  have HU:=Lh (U.out.trans hu);have HB1:=Lh hb1
                  clear hu hb1 hR)
     go_roundw
     case rel=>exact ⟨k+1,by omega,by go_num,Lh ⟨r',by have:=Zec _ _ _ _ HQ.out; omega,by rw [Zcp HX.out HR.out,HQ.out],HB1.out⟩,HU⟩
     case measure=>simp [intOf]; omega
  ·have hltI:¬ (k:Int) < n:=by omega
   obtain rfl:n=k:=by omega
   obtain ⟨r,hr,hR,hbl⟩:=L.out;rw [List.take_of_length_le (by rw [HN.out]; omega)] at hR;have HR:=Lh hR;have HB1:=Lh hbl;clear hR hbl
   go_wp2
   go_ret;exact ⟨U.out,-1,r,rfl,HB1.out,.inr ⟨r,HR.out,rfl,rfl⟩⟩
def ZqH (R:Option Nat) (bl:Nat) (w:World) (e:Ending) (w':World):Prop :=
 Za0 bl w w'∧∃ (b:Bool) (z:Int),e = .returned (.bool b)∧Blk w' bl 3 #[.int .i64 z]∧(R=none∧b=true∨∃ r:Nat,R=some r∧b=false∧z=r)
theorem Zj2 (l:List KE) (A:Option Addr) (c:Nat) (hall:∀ x∈l,ZnF x) (deep left bl bv bd B:Nat) (w:World) (hd:deep≤31) (hl:left≤256) (hi:Zbm w B A l) (hB:B≤bl) (hlv:bl≠bv) (hld:bl≠bd)
  (hbl:Blk w bl 3 #[.int .i64 left]) (hbv:Blk w bv 116 (Zkk bl bv)) (hbd:Blk w bd 3 #[.int .i64 ((deep:Int)+1)]) :
  Calls Tryz.prog 112 #[.slice A l.length c,.func (.func 113) #[] #[.pointer (some ⟨bv,0,none⟩),.pointer (some ⟨bd,0,none⟩)]] w (ZqH (Z8 (deep+1) left l) bl w):=by
 have HC:=Lh (ZoP l A c hall deep left bl bv bd B w hd hl hi hB hlv hld hbl hbv hbd);generalize Z8 (deep+1) left l=R at *;generalize l.length=n at *;clear hall hi hbl hbv hbd;go_enter Tryz.func112,Tryz.ntmps112
 go_wp2_with (go_at_call 118; (with_reducible refine HC.out.mono ?_); rintro e w1 ⟨hu,i,z,rfl,hb,hR⟩
              have HU:=Lh hu;have HB1:=Lh hb;have HR:=Lh hR
              clear hu hb hR)
 go_ret;refine ⟨HU.out,_,z,rfl,HB1.out,?_⟩
 rcases HR.out with ⟨h1,h2⟩ | ⟨r,h1,h2,h3⟩
 ·exact .inl ⟨h1,by simpa using h2⟩
 ·exact .inr ⟨r,h1,by rw [h2]; rfl,h3⟩
theorem ZpN (e:KE):ZnF e:=by
 induction e using KE.ind with
 | h e ih =>
   intro deep left bl bv B w hd hl hi hB hlv hbl hbv;have hlt:=hbl.lt;have hvt:=hbv.lt
   obtain ⟨W0,hW0⟩:∃ W,(w.alloc (.cells e.cells 65)).alloc (.cells #[.int .i64 ((deep:Int)+1)] 3)=W:=⟨_,rfl⟩
   have b4:Blk W0 w.heap.size 65 e.cells:=by rw [← hW0]; exact (Blk.new w _ _).alloc _
   have b5:Blk W0 (w.heap.size+1) 3 #[.int .i64 ((deep:Int)+1)]:=by rw [← hW0]; simpa using Blk.new (w.alloc (.cells e.cells 65)) 3 #[.int .i64 ((deep:Int)+1)]
   have K0:Hid (Below w.heap.size w W0):=Lh (by rw [← hW0]; exact ((Below.refl _ _).alloc (Nat.le_refl _) _).alloc (by simp) _);have bl0:=hbl.call K0.out;have bv0:=hbv.call K0.out;have HE:=Zci deep left e;have HK:=hi.one.1.1;have HIN:=Lh hi;have HIH:=Lh ih
   obtain ⟨W1,hW1⟩:∃ W,W0.setCell ⟨bl,0,none⟩ (.int .i64 ((left:Int) - 1))=W:=⟨_,rfl⟩
   have U1:Hid (Za0 bl w W1):=Lh (by rw [← hW1]; exact (Za0.of_below K0.out).trans (Za0.set W0 0 _))
   have bl1:Blk W1 bl 3 #[.int .i64 ((left:Int) - 1)]:=by rw [← hW1]; simpa using bl0.set_ 0 (.int .i64 ((left:Int) - 1))
   have bv1:Blk W1 bv 116 (Zkk bl bv):=by rw [← hW1]; exact bv0.far (Ne.symm hlv) _
   have b41:Blk W1 w.heap.size 65 e.cells:=by rw [← hW1]; exact b4.far (by simp; omega) _
   have b51:Blk W1 (w.heap.size+1) 3 #[.int .i64 ((deep:Int)+1)]:=by rw [← hW1]; exact b5.far (by simp; omega) _
   have HF:=Lh (ZoQ e HK W1);simp only [KE.cells] at hW0 b4 b41 HF ⊢;have c0:=bl0.cell 0;have f0:=bl0.frozen 0;have d0:=bl1.cell 0;have d5:=b51.cell 0;simp at c0 d0 d5;obtain ⟨e0,e1,e2,e3,e4,e5⟩:=b41.c6;simp at e0 e1 e2 e3 e4 e5;generalize hR:ZU deep left e=R at *;have b41':=Lh b41;have HB1:=Lh bl1;have HBV:=Lh bv1;have HB5:=Lh b51;have HEE:=Lh HE;clear hR HE ih hi hbl hbv b4 b5 bl0 bv0 bl1 bv1 b41 b51 K0
   by_cases h0:left=0
   ·have h0I:(left:Int) - 1 < 0:=by omega
    have HH0:=Lh h0;clear h0;go_enter Tryz.func110,Tryz.ntmps110
    go_wp2_with fail
    go_ret;exact ⟨U1.out,false,_,rfl,HB1.out,.inl ⟨by rw [HEE.out]; simp [HH0.out],rfl⟩⟩
   ·have h0I:¬ (left:Int) - 1 < 0:=by omega
    by_cases hdp:32≤deep
    ·have hdI:(32:Int) < (deep:Int)+1:=by omega
     go_enter Tryz.func110,Tryz.ntmps110
     go_wp2_with fail
     go_ret;exact ⟨U1.out,false,_,rfl,HB1.out,.inl ⟨by rw [HEE.out]; simp [hdp],rfl⟩⟩
    ·have hdI:¬ (32:Int) < (deep:Int)+1:=by omega
     cases hfb:Zq e with
     | false =>
       rw [hfb] at HF;have HFB:=Lh hfb;clear hfb;go_enter Tryz.func110,Tryz.ntmps110
       go_wp2_with (go_at_call 111; (with_reducible refine HF.out.mono ?_); rintro e1 w2 ⟨rfl,hb2⟩
                    have K2:=Lh hb2
                    clear hb2)
       go_ret;exact ⟨U1.out.trans (Za0.of_below K2.out),false,_,rfl,HB1.out.call K2.out,.inl ⟨by rw [HEE.out,HFB.out]; simp,rfl⟩⟩
     | true =>
       rw [hfb] at HF;have HRE:Hid (R=Z8 (deep+1) (left - 1) e.l):=Lh (by rw [HEE.out,hfb]; simp [h0,hdp])
       have hleft:(left:Int) - 1=((left - 1:Nat):Int):=by omega
       have HLF:=Lh hleft
       have hdd:((deep+1:Nat):Int)=(deep:Int)+1:=by omega
       clear hfb hleft hdd HEE;have HLE:=Lh (U1.out.below hlt);go_enter Tryz.func110,Tryz.ntmps110
       go_upto_region 4 with (go_at_call 111; (with_reducible refine HF.out.mono ?_); rintro e1 w2 ⟨rfl,hb2⟩
                              have K2:=Lh hb2;have g5:=(Blk.call b41'.out hb2).cell 5
                              clear hb2)
       simp at g5
       have hB2:B≤W1.heap.size:=by have:=U1.out.size; omega
       have hcon:=Zj2 e.l e.A e.c HIH.out deep (left - 1) bl bv (w.heap.size+1) B w2 (by omega) (by omega) ((HIN.out.parts.below (HLE.out.mono hB)).below (K2.out.mono hB2)) hB hlv (by omega) (by rw [← HLF.out]; exact HB1.out.call K2.out) (HBV.out.call K2.out) (HB5.out.call K2.out);rw [← HRE.out] at hcon;have HCon:=Lh hcon;clear hcon hB2
       go_wp2_with (go_at_call 112; (with_reducible refine HCon.out.mono ?_); rintro e3 w3 ⟨hu,b,z,rfl,hb,hR⟩
                    have HU:=Lh hu;have HB3:=Lh hb;have HR:=Lh hR
                    clear hu hb hR)
       go_ret;refine ⟨(U1.out.trans (Za0.of_below K2.out)).trans HU.out,!b,z,rfl,HB3.out,?_⟩
       rcases HR.out with ⟨h1,h2⟩ | ⟨r,h1,h2,h3⟩
       ·exact .inl ⟨h1,by rw [h2]; rfl⟩
       ·exact .inr ⟨r,h1,by rw [h2]; rfl,h3⟩
theorem Zh3 {e:KE} (h:ZU 0 256 e=none):Zaa e=false:=by rw [Zaa,h]; rfl
theorem Zh2 {e:KE} {r:Nat} (h:ZU 0 256 e=some r):Zaa e=true:=by rw [Zaa,h]; rfl
theorem ZpO (e:KE) (B:Nat) (w:World) (hi:e.In w B) (hB:B≤w.heap.size):Calls Tryz.prog 101 #[.agg e.cells] w (Zu (.bool (Zaa e)) w):=by
 have HIN:=Lh hi;have HN:=Lh (fun h=>Zh3 (e:=e) h);have HS:=Lh (fun r h=>Zh2 (e:=e) (r:=r) h)
 obtain ⟨W0,hW0⟩:∃ W,((w.alloc (.cells e.cells 65)).alloc (.cells #[.int .i64 256] 3)).alloc (.cells (Zkk (w.heap.size+1) (w.heap.size+1+1)) 116)=W:=⟨_,rfl⟩
 have K0:Hid (Below w.heap.size w W0):=Lh (by rw [← hW0]; exact (((Below.refl _ _).alloc (Nat.le_refl _) _).alloc (by simp) _).alloc (by simp; omega) _)
 have b3:Blk W0 w.heap.size 65 e.cells:=by rw [← hW0]; exact ((Blk.new w _ _).alloc _).alloc _
 have b4:Blk W0 (w.heap.size+1) 3 #[.int .i64 256]:=by
  rw [← hW0];refine Blk.alloc ?_ _
  simpa using Blk.new (w.alloc (.cells e.cells 65)) 3 #[.int .i64 256]
 have b5:Blk W0 (w.heap.size+1+1) 116 (Zkk (w.heap.size+1) (w.heap.size+1+1)):=by
  rw [← hW0]
  simpa using Blk.new ((w.alloc (.cells e.cells 65)).alloc (.cells #[.int .i64 256] 3)) 116 (Zkk (w.heap.size+1) (w.heap.size+1+1))
 have HC:=Lh (ZpN e 0 256 (w.heap.size+1) (w.heap.size+1+1) B W0 (by omega) (by omega) (hi.below (K0.out.mono hB)) (by omega) (by omega) b4 b5);rw [show (((0:Nat):Int)+1)=1 from rfl] at HC;generalize ZU 0 256 e=R at *;generalize Zaa e=V at *;simp only [KE.cells] at b3;obtain ⟨c0,c1,c2,c3,c4,c5⟩:=b3.c6;simp at c0 c1 c2 c3 c4 c5;have c6:=b5.cell 0
 simp [Zkk] at c6
 have HZ:=Lh b4.lt;clear hi b3 b4 b5;simp only [KE.cells,Zkk] at hW0 HC ⊢;go_enter Tryz.func101,Tryz.ntmps101
 go_wp2_with (go_at_call 110; (with_reducible refine HC.out.mono ?_); rintro e3 w3 ⟨hu,b,z,rfl,hb,hR⟩
              have HU:=Lh (hu.below HZ.out);have HR:=Lh hR
              clear hu hb hR)
 go_ret;refine ⟨?_,K0.out.trans (HU.out.mono (by omega))⟩
 rcases HR.out with ⟨h1,h2⟩ | ⟨r,h1,h2,h3⟩
 ·rw [HN.out h1,h2]; rfl
 ·rw [HS.out r h1,h2]; rfl
def Zb4 (a b c:Bool):Nat:=(if a then 2 else 0)+(if b then 4 else 0)+(if c then 8 else 0)
theorem ZqP (a b c:Bool) (k:Nat) (hk:k=1∨k=2∨k=3) (w:World):Calls Tryz.prog 103 #[.int .u64 (Zb4 a b c:Nat),.int .u8 k] w (Zmd (.bool (if k=1 then a else if k=2 then b else c)) w):=by
 rcases hk with rfl | rfl | rfl <;> cases a <;> cases b <;> cases c
 all_goals
  simp only [Zb4];go_enter Tryz.func103,Tryz.ntmps103
  go_wp2
  go_ret;exact ⟨rfl,rfl⟩
def ofN (l:List Nat):Nat:=Zb4 (decide (1∈l)) (decide (2∈l)) (decide (3∈l))
theorem Zm2 (l:List Nat) (k:Nat):ofN (l++[k])=Zb4 (decide (1∈l) || decide (1=k)) (decide (2∈l) || decide (2=k)) (decide (3∈l) || decide (3=k)):=by
 simp only [ofN,List.mem_append,List.mem_singleton,Bool.decide_or]
theorem ZpH (a b c:Bool):bits .or .u64 ((Zb4 a b c:Nat):Int) 2=((Zb4 true b c:Nat):Int)∧bits .or .u64 ((Zb4 a b c:Nat):Int) 4=((Zb4 a true c:Nat):Int)∧bits .or .u64 ((Zb4 a b c:Nat):Int) 8=((Zb4 a b true:Nat):Int):=by
 cases a <;> cases b <;> cases c <;> decide +kernel
theorem ZkE (a b c:Bool):Zb4 a b c≤14:=by cases a <;> cases b <;> cases c <;> decide
def Zlk (l:List Nat):List Value:=l.flatMap fun x=>[Value.int .u8 (x:Nat)]
theorem Znb {w:World} {B n:Nat} {A:Option Addr} {l:List Nat} (h:Zo w B 1 A n (Zlk l)) (hn:l.length=n) {k:Nat} (hk:k < n):∃ b off x,A=some ⟨b,off,none⟩∧b < B∧l[k]? = some x∧x∈l∧w.cell? ⟨b,off+k,none⟩=some (.int .u8 (x:Nat)):=by
 subst hn;obtain ⟨b,off,x,h1,h2,h3,h4,hc⟩:=Zeb (f:=fun x=>[Value.int .u8 (x:Nat)]) (fun _=>rfl) (by decide) h hk;have:=hc 0 _ rfl;exact ⟨b,off,x,h1,h2,h3,h4,by simpa using this⟩
theorem kOf (l:List Nat) (hl:∀ x∈l,x=1∨x=2∨x=3) (hn:l.length≤1000) (A:Option Addr) (c:Nat) (B:Nat) (w:World) (hr:Zo w B 1 A l.length (Zlk l)) :
  Calls Tryz.prog 115 #[.slice A l.length c] w (Zmd (.int .u64 (ofN l:Nat)) w):=by
 have HR:=Lh hr;have HL:=Lh hl;have HT:=Lh (fun (k:Nat) (x:Nat) (h:l[k]? = some x)=>show ofN (l.take (k+1))=Zb4 (decide (1∈l.take k) || decide (1=x)) (decide (2∈l.take k) || decide (2=x)) (decide (3∈l.take k) || decide (3=x)) by rw [List.take_add_one,h,Option.toList_some,Zm2])
 obtain ⟨n,hnn⟩:∃ n,l.length=n:=⟨_,rfl⟩
 have HN:=Lh hnn;rw [hnn] at HR hn ⊢;clear hr hl hnn;go_enter Tryz.func115,Tryz.ntmps115
 go_wp2
 go_loop [2,7] (fun s i=>∃ k:Nat,k≤n∧i = .int .i64 k∧s = .int .u64 (ofN (l.take k):Nat)) (fun _ i=>n - (intOf i).toNat)
 case atStart=>exact ⟨0,Nat.zero_le _,rfl,rfl⟩
 case round =>
  obtain ⟨k,hk,rfl,rfl⟩:=hrel
  by_cases hlt:k < n
  ·have hltI:(k:Int) < n:=by omega
   obtain ⟨b,off,x,rfl,hb,hx,hm,c0⟩:=Znb HR.out HN.out hlt;have HX:=Lh (HT.out k x hx);have hb14:=ZkE (decide (1∈l.take k)) (decide (2∈l.take k)) (decide (3∈l.take k));have ho:=ZpH (decide (1∈l.take k)) (decide (2∈l.take k)) (decide (3∈l.take k));unfold ofN at *;generalize decide (1∈l.take k)=a1 at *;generalize decide (2∈l.take k)=a2 at *;generalize decide (3∈l.take k)=a3 at *;obtain ⟨o1,o2,o3⟩:=ho;have hx3:=HL.out x hm;clear hx hm
   rcases hx3 with rfl | rfl | rfl
   all_goals
    go_wp2
    go_round
    case rel=>exact ⟨k+1,by omega,by go_num,by rw [HX.out]; simp⟩
    case measure=>simp [intOf]; omega
  ·have hltI:¬ (k:Int) < n:=by omega
   obtain rfl:n=k:=by omega
   have htk:l.take n=l:=List.take_of_length_le (by rw [HN.out]; omega);rw [htk]
   go_wp2
   go_ret;exact ⟨rfl,rfl⟩
theorem Zmd.ret {v u:Value} {w w1 w':World} {e:Ending} (h:Zmd v w1 e w') (hv:v=u) (hb:Below w.heap.size w w1):Zu u w e w':=by
 obtain ⟨rfl,rfl⟩:=h;exact ⟨by rw [hv],hb⟩
theorem Zlo (k:Nat) (hk:k=1∨k=2∨k=3) (b:Bool) (w:World):Calls Tryz.prog 114 #[.bool b,.int .u8 k] w (Zu (.int .u64 (Zb4 (b && decide (1=k)) (b && decide (2=k)) (b && decide (3=k)):Nat)) w):=by
 cases b with
 | false =>
   go_enter Tryz.func114,Tryz.ntmps114
   go_wp2
   go_ret;exact ⟨by simp [Zb4],Below.refl _ _⟩
 | true =>
   have hb0:Below w.heap.size w (w.alloc (.cells #[.int .u8 k] 25)):=(Below.refl _ _).alloc (Nat.le_refl _) _;have K:=Lh hb0
   have HC:=Lh (kOf [k] (by intro x hx; simp at hx; subst hx; exact hk) (by simp) (some ⟨w.heap.size,0,none⟩) 1 (w.heap.size+1) (w.alloc (.cells #[.int .u8 k] 25)) ⟨rfl,fun _=>⟨_,rfl,by simp,fun j u hu=>by
    have:=(Blk.new w 25 #[.int .u8 k]).cell j
    have hadd:(⟨w.heap.size,0,none⟩:Addr).add j=⟨w.heap.size,j,none⟩:=by unfold Addr.add; split <;> simp_all
    rw [hadd,this]
    simpa [Zlk] using hu⟩⟩)
   have HV:=Lh (show ofN [k]=Zb4 (true && decide (1=k)) (true && decide (2=k)) (true && decide (3=k)) by simp [ofN]);clear hb0 hk;simp only [List.length_singleton] at HC;go_enter Tryz.func114,Tryz.ntmps114
   go_wp2_with (go_at_call 115; (with_reducible refine HC.out.mono ?_); rintro e w1 ⟨rfl,rfl⟩)
   go_ret;exact ⟨by rw [← HV.out]; rfl,K.out⟩
theorem Zed (w:World) (T:TypeId) (cs:Array Value) (n:Nat) (xs:List Value) (hx:cs.toList=xs) (hn:xs.length=n):Zo (w.alloc (.cells cs T)) (w.heap.size+1) 1 (some ⟨w.heap.size,0,none⟩) n xs:=by
 subst hx;refine ⟨by simpa using hn,fun _=>⟨_,rfl,by simp,fun j u hu=>?_⟩⟩;have:=(Blk.new w T cs).cell j
 have hadd:(⟨w.heap.size,0,none⟩:Addr).add j=⟨w.heap.size,j,none⟩:=by unfold Addr.add; split <;> simp_all
 rw [hadd,this]
 simpa using hu
def Zm3 (n:Int):Nat:=Zb4 true (decide (0≤n∧n≤255)) (decide (n=0∨n=1))
theorem ZoM (n:Int) (hn:ZfO n) (w:World):Calls Tryz.prog 116 #[.int .i32 n] w (Zu (.int .u64 (Zm3 n:Nat)) w):=by
 obtain ⟨h1,h2⟩:=hn;have HC3:=Lh (kOf [1,2,3] (by simp) (by simp) (some ⟨w.heap.size,0,none⟩) 3 (w.heap.size+1) (w.alloc (.cells #[.int .u8 1,.int .u8 2,.int .u8 3] 25)) (Zed w _ _ 3 _ rfl rfl));have HC2:=Lh (kOf [1,2] (by simp) (by simp) (some ⟨w.heap.size,0,none⟩) 2 (w.heap.size+1) (w.alloc (.cells #[.int .u8 1,.int .u8 2] 25)) (Zed w _ _ 2 _ rfl rfl));have HC1:=Lh (kOf [1] (by simp) (by simp) (some ⟨w.heap.size,0,none⟩) 1 (w.heap.size+1) (w.alloc (.cells #[.int .u8 1] 25)) (Zed w _ _ 1 _ rfl rfl));have K3:=Lh ((Below.refl w.heap.size w).alloc (Nat.le_refl _) (.cells #[.int .u8 1,.int .u8 2,.int .u8 3] 25));have K2:=Lh ((Below.refl w.heap.size w).alloc (Nat.le_refl _) (.cells #[.int .u8 1,.int .u8 2] 25));have K1:=Lh ((Below.refl w.heap.size w).alloc (Nat.le_refl _) (.cells #[.int .u8 1] 25));simp only [List.length_cons,List.length_nil,Nat.zero_add,Nat.reduceAdd] at HC3 HC2 HC1
 by_cases hb:0≤n∧n≤1
 ·have e1:n / 2=0:=by omega
  have HV:=Lh (show Zm3 n=ofN [1,2,3] by rw [Zm3,decide_eq_true (by omega),decide_eq_true (by omega)]; simp [ofN]);clear HC2 HC1;go_enter Tryz.func116,Tryz.ntmps116
  go_wp2_with (go_at_call 115; (with_reducible refine HC3.out.mono ?_); rintro e w1 ⟨rfl,rfl⟩)
  go_ret;exact ⟨by rw [HV.out]; rfl,K3.out⟩
 ·have e1:¬ n / 2=0:=by omega
  by_cases hy:0≤n∧n≤255
  ·have e2:n / 256=0:=by omega
   have HV:=Lh (show Zm3 n=ofN [1,2] by rw [Zm3,decide_eq_true (by omega),decide_eq_false (by omega)]; simp [ofN]);clear HC3 HC1;go_enter Tryz.func116,Tryz.ntmps116
   go_wp2_with (go_at_call 115; (with_reducible refine HC2.out.mono ?_); rintro e w1 ⟨rfl,rfl⟩)
   go_ret;exact ⟨by rw [HV.out]; rfl,K2.out⟩
  ·have e2:¬ n / 256=0:=by omega
   have HV:=Lh (show Zm3 n=ofN [1] by rw [Zm3,decide_eq_false (by omega),decide_eq_false (by omega)]; simp [ofN]);clear HC3 HC2;go_enter Tryz.func116,Tryz.ntmps116
   go_wp2_with (go_at_call 115; (with_reducible refine HC1.out.mono ?_); rintro e w1 ⟨rfl,rfl⟩)
   go_ret;exact ⟨by rw [HV.out]; rfl,K1.out⟩
section
theorem Zb2 {w:World} {B n:Nat} {A:Option Addr} {vs:List ZZ} (h:Zo w B 2 A n (Zgc vs)) (hn:vs.length=n) {k:Nat} (hk:k < n) :
  ∃ b off x,A=some ⟨b,off,none⟩∧b < B∧vs[k]? = some x∧x∈vs∧w.cell? ⟨b,off+k * 2,none⟩=some (.int .u8 x.kind)∧w.cell? ⟨b,off+k * 2+1,none⟩=some (.int .i64 x.dim):=by
 subst hn;obtain ⟨b,off,x,h1,h2,h3,h4,hc⟩:=Zeb (f:=fun x:ZZ=>x.cells.toList) (fun _=>rfl) (by decide) h hk;exact ⟨b,off,x,h1,h2,h3,h4,hc 0 _ rfl,hc 1 _ rfl⟩
theorem Zi5 {w:World} {B n:Nat} {A:Option Addr} {l:List Nat} (h:Zo w B 1 A n (ZnX l)) (hn:l.length=n) {k:Nat} (hk:k < n) :
  ∃ b off x,A=some ⟨b,off,none⟩∧b < B∧l[k]? = some x∧x∈l∧w.cell? ⟨b,off+k,none⟩=some (.int .u8 (x:Nat)):=by
 subst hn;obtain ⟨b,off,x,h1,h2,h3,h4,hc⟩:=Zeb (f:=fun x:Nat=>[Value.int .u8 (x:Nat)]) (fun _=>rfl) (by decide) h hk;have:=hc 0 _ rfl;exact ⟨b,off,x,h1,h2,h3,h4,by simpa using this⟩
theorem Zdc {w:World} {B n:Nat} {A:Option Addr} {l:List KPl} (h:ZcN w B A l) (hn:l.length=n) {k:Nat} (hk:k < n) :
  ∃ b off x,A=some ⟨b,off,none⟩∧b < B∧l[k]? = some x∧x.In w B∧w.cell? ⟨b,off+k * 2,none⟩=some (.int .i64 x.v)∧w.cell? ⟨b,off+k * 2+1,none⟩=some (.slice x.A x.l.length x.c):=by
 subst hn;obtain ⟨b,off,x,h1,h2,h3,h4,hc⟩:=Zeb KPl.cells_len (by decide) h.2.1 hk;exact ⟨b,off,x,h1,h2,h3,h.2.2 x h4,hc 0 _ rfl,hc 1 _ rfl⟩
theorem Za4 {w:World} {B n:Nat} {A:Option Addr} {l:List KP} (h:Zo w B 8 A n (Zpi l)) (hn:l.length=n) {k:Nat} (hk:k < n) :
  ∃ b off x,A=some ⟨b,off,none⟩∧b < B∧l[k]? = some x∧x∈l∧w.cell? ⟨b,off+k * 8,none⟩=some (.int .u8 x.kind)∧w.cell? ⟨b,off+k * 8+1,none⟩=some (.int .i64 x.c)∧w.cell? ⟨b,off+k * 8+2,none⟩=some (.int .i64 x.v)∧w.cell? ⟨b,off+k * 8+3,none⟩=some (.int .u8 x.item) ∧
   w.cell? ⟨b,off+k * 8+4,none⟩=some (.slice x.At x.tos.length x.ct)∧w.cell? ⟨b,off+k * 8+5,none⟩=some (.slice x.Ae x.e.length x.ce)∧w.cell? ⟨b,off+k * 8+6,none⟩=some (.slice x.Ag x.g.length x.cg)∧w.cell? ⟨b,off+k * 8+7,none⟩=some (.slice x.Al x.l.length x.cl):=by
 subst hn;obtain ⟨b,off,x,h1,h2,h3,h4,hc⟩:=Zeb KP.cells_len (by decide) h hk;exact ⟨b,off,x,h1,h2,h3,h4,hc 0 _ rfl,hc 1 _ rfl,hc 2 _ rfl,hc 3 _ rfl,hc 4 _ rfl,hc 5 _ rfl,hc 6 _ rfl,hc 7 _ rfl⟩
structure GAt (w:World) (b o:Nat) (g:KG):Prop where
 c0:w.cell? ⟨b,o,none⟩=some (.int .u8 g.kind)
 c1:w.cell? ⟨b,o+1,none⟩=some (.int .u8 g.cond.kind)
 c2:w.cell? ⟨b,o+2,none⟩=some (.int .u8 g.cond.oper)
 c3:w.cell? ⟨b,o+3,none⟩=some (.int .u8 g.cond.tk)
 c4:w.cell? ⟨b,o+4,none⟩=some (.int .i32 g.cond.n)
 c5:w.cell? ⟨b,o+5,none⟩=some (.int .i64 g.cond.v)
 c6:w.cell? ⟨b,o+6,none⟩=some (.slice g.cond.A g.cond.l.length g.cond.c)
 c7:w.cell? ⟨b,o+7,none⟩=some (.int .i64 g.c)
 c8:w.cell? ⟨b,o+8,none⟩=some (.int .u8 g.item)
 c9:w.cell? ⟨b,o+9,none⟩=some (.int .i64 g.dst.v)
 c10:w.cell? ⟨b,o+10,none⟩=some (.slice g.dst.A g.dst.l.length g.dst.c)
 c11:w.cell? ⟨b,o+11,none⟩=some (.int .u8 g.time.kind)
 c12:w.cell? ⟨b,o+12,none⟩=some (.int .u8 g.time.oper)
 c13:w.cell? ⟨b,o+13,none⟩=some (.int .u8 g.time.tk)
 c14:w.cell? ⟨b,o+14,none⟩=some (.int .i32 g.time.n)
 c15:w.cell? ⟨b,o+15,none⟩=some (.int .i64 g.time.v)
 c16:w.cell? ⟨b,o+16,none⟩=some (.slice g.time.A g.time.l.length g.time.c)
 c17:w.cell? ⟨b,o+17,none⟩=some (.slice g.Ab g.body.length g.cb)
theorem Zb7 {w:World} {B n:Nat} {A:Option Addr} {l:List KG} (h:Zo w B 18 A n (kgsC l)) (hn:l.length=n) {k:Nat} (hk:k < n) :
  ∃ b off x,A=some ⟨b,off,none⟩∧b < B∧l[k]? = some x∧x∈l∧GAt w b (off+k * 18) x:=by
 subst hn;obtain ⟨b,off,x,h1,h2,h3,h4,hc⟩:=Zeb KG.row_len (by decide) h hk;exact ⟨b,off,x,h1,h2,h3,h4,hc 0 _ rfl,hc 1 _ rfl,hc 2 _ rfl,hc 3 _ rfl,hc 4 _ rfl,hc 5 _ rfl,hc 6 _ rfl,hc 7 _ rfl,hc 8 _ rfl,hc 9 _ rfl,hc 10 _ rfl,hc 11 _ rfl,hc 12 _ rfl,hc 13 _ rfl,hc 14 _ rfl,hc 15 _ rfl,hc 16 _ rfl,hc 17 _ rfl⟩
structure KOk (k:KK):Prop where
 nv:k.vars.length≤256
 nc:2≤k.chans.length∧k.chans.length≤64
 vs:∀ x∈k.vars,ZaT x.kind=true∧0≤x.dim∧x.dim≤64
theorem Zbs {k:Nat} (h:ZaT k=true):k=1∨k=2∨k=3:=by simp [ZaT] at h; omega
structure Chk (w:World) (B bc:Nat) (k:KK) (n:Int):Prop where
 blk:Blk w bc 97 (k.row++[Value.int .i64 n]).toArray
 inn:k.In w B
 le:B≤bc
 ok:KOk k
section
variable {w w':World} {B bc:Nat} {k:KK} {n:Int}
theorem Chk.lt (h:Chk w B bc k n):bc < w.heap.size:=h.blk.lt
theorem Chk.leB (h:Chk w B bc k n):B≤w.heap.size:=Nat.le_trans h.le (Nat.le_of_lt h.lt)
theorem Chk.call (h:Chk w B bc k n) (hb:Below w.heap.size w w'):Chk w' B bc k n:=⟨h.blk.call hb,h.inn.below (hb.mono h.leB),h.le,h.ok⟩
theorem Chk.c0 (h:Chk w B bc k n):w.cell? ⟨bc,0,none⟩=some (.slice k.Av k.vars.length k.cv):=by have:=h.blk.cell 0; simpa [KK.row] using this
theorem Chk.c1 (h:Chk w B bc k n):w.cell? ⟨bc,1,none⟩=some (.slice k.Ac k.chans.length k.cc):=by have:=h.blk.cell 1; simpa [KK.row] using this
theorem Chk.c11 (h:Chk w B bc k n):w.cell? ⟨bc,11,none⟩=some (.int .i64 n):=by have:=h.blk.cell 11; simpa [KK.row,KP.cells] using this
end
def Z4 (vs:List ZZ) (e:KE):Nat:=Zb4 (Zt vs e 1) (Zt vs e 2) (Zt vs e 3)
def Zf2 (vs:List ZZ) (l:List KE):Int:=if l=[] then 18446744073709551615 else ((Zb4 (l.all (Zt vs · 1)) (l.all (Zt vs · 2)) (l.all (Zt vs · 3)):Nat):Int)
theorem Zl5 (a b c a' b' c':Bool):bits .and .u64 ((Zb4 a b c:Nat):Int) ((Zb4 a' b' c':Nat):Int)=((Zb4 (a && a') (b && b') (c && c'):Nat):Int):=by
 cases a <;> cases b <;> cases c <;> cases a' <;> cases b' <;> cases c' <;> decide +kernel
theorem Zo9 (a b c:Bool):bits .and .u64 18446744073709551615 ((Zb4 a b c:Nat):Int)=((Zb4 a b c:Nat):Int):=by
 cases a <;> cases b <;> cases c <;> decide +kernel
theorem Zl0 (vs:List ZZ):Zf2 vs []=18446744073709551615:=rfl
theorem Zkd (vs:List ZZ) (l:List KE) (e:KE):bits .and .u64 (Zf2 vs l) (Z4 vs e:Nat)=Zf2 vs (l++[e]):=by
 unfold Zf2 Z4
 by_cases h:l=[]
 ·subst h;rw [if_pos rfl,Zo9,if_neg (by simp)]
  simp
 ·rw [if_neg h,Zl5,if_neg (by simp)]
  simp [List.all_append]
theorem Zkc (vs:List ZZ) {l:List KE} {k:Nat} {e:KE} (h:l[k]? = some e):bits .and .u64 (Zf2 vs (l.take k)) (Z4 vs e:Nat)=Zf2 vs (l.take (k+1)):=by
 rw [Zkd,List.take_add_one,h,Option.toList_some]
end
section
section
variable {vs:List ZZ} {o t c:Nat} {n v:Int} {A:Option Addr} {l:List KE}
theorem ZjT:Z4 vs ⟨1,o,t,n,v,A,c,l⟩=Zm3 n:=by
 simp [Z4,Zt,Zm3]
theorem Zg2 (b:Bool) (k:Nat):Zb4 (b && (k == 1)) (b && (k == 2)) (b && (k == 3))=Zb4 (b && decide (1=k)) (b && decide (2=k)) (b && decide (3=k)):=by
 have e:∀ q:Nat,(k == q)=decide (q=k):=fun q=>by rw [Bool.eq_iff_iff,beq_iff_eq,decide_eq_true_eq]; exact eq_comm
 rw [e,e,e]
theorem ZjS {x:ZZ} (h:vs[v.toNat]? = some x):Z4 vs ⟨2,o,t,n,v,A,c,l⟩=Zb4 (decide (x.dim=0) && decide (1=x.kind)) (decide (x.dim=0) && decide (2=x.kind)) (decide (x.dim=0) && decide (3=x.kind)):=by
 rw [← Zg2]
 simp [Z4,Zt,h]
theorem Zip (h:vs[v.toNat]? = none):Z4 vs ⟨2,o,t,n,v,A,c,l⟩=0:=by
 simp [Z4,Zt,h,Zb4]
theorem Ziq {x:ZZ} {y:KE} (h:vs[v.toNat]? = some x):Z4 vs ⟨3,o,t,n,v,A,c,[y]⟩ =
  Zb4 ((decide (0 < x.dim) && Zt vs y 1) && decide (1=x.kind)) ((decide (0 < x.dim) && Zt vs y 1) && decide (2=x.kind)) ((decide (0 < x.dim) && Zt vs y 1) && decide (3=x.kind)):=by
 rw [← Zg2];simp only [Z4,Zt,h,ZaE]
 congr 1 <;> (rw [Bool.and_assoc,Bool.and_assoc,Bool.and_comm (Zt vs y 1)])
theorem ZhI (h:vs[v.toNat]? = none):Z4 vs ⟨3,o,t,n,v,A,c,l⟩=0:=by
 simp [Z4,Zt,h,Zb4]
theorem Zir {y:KE}:Z4 vs ⟨6,o,t,n,v,A,c,[y]⟩ =
  Zb4 ((Zt vs y 1 || Zt vs y 2 || Zt vs y 3) && decide (1=t)) ((Zt vs y 1 || Zt vs y 2 || Zt vs y 3) && decide (2=t)) ((Zt vs y 1 || Zt vs y 2 || Zt vs y 3) && decide (3=t)):=by
 rw [← Zg2];simp only [Z4,Zt,ZaE]
 congr 1 <;> (rw [Bool.and_comm])
def Zeh (o:Nat) (p1 p2 p3:Bool):Nat :=
 if o=14∨o=15 then Zb4 false false (p1 || p2 || p3) else if o=16∨o=17∨o=18∨o=19 then Zb4 false false (p1 || p2) else if o=20∨o=21∨o=26 then Zb4 false false p3
 else if o=22 then Zb4 false false p1 else Zb4 p1 false false
theorem ZjU {y:KE} (h1:23≤o) (h2:o≤26):Z4 vs ⟨4,o,t,n,v,A,c,[y]⟩=Zeh o (Zt vs y 1) (Zt vs y 2) (Zt vs y 3):=by
 obtain rfl | rfl | rfl | rfl:o=23∨o=24∨o=25∨o=26:=by omega
 all_goals simp [Z4,Zt,ZaE,Zeh]
theorem Zlj {y z:KE} (h1:1≤o) (h2:o≤22):Z4 vs ⟨5,o,t,n,v,A,c,[y,z]⟩=Zeh o (Zt vs y 1 && Zt vs z 1) (Zt vs y 2 && Zt vs z 2) (Zt vs y 3 && Zt vs z 3):=by
 by_cases h13:o≤13
 ·have e:¬ (o=14∨o=15)∧¬ (o=16∨o=17∨o=18∨o=19)∧¬ (o=20∨o=21∨o=26)∧¬ o=22:=by omega
  rw [Zeh,if_neg e.1,if_neg e.2.1,if_neg e.2.2.1,if_neg e.2.2.2]
  simp [Z4,Zt,ZaE,h13]
 ·obtain rfl | rfl | rfl | rfl | rfl | rfl | rfl | rfl | rfl:o=14∨o=15∨o=16∨o=17∨o=18∨o=19∨o=20∨o=21∨o=22:=by omega
  all_goals simp [Z4,Zt,ZaE,Zeh]
theorem Zf1 (y:KE):Zf2 vs [y]=((Zb4 (Zt vs y 1) (Zt vs y 2) (Zt vs y 3):Nat):Int):=by simp [Zf2]
theorem ZlZ (y z:KE):Zf2 vs [y,z]=((Zb4 (Zt vs y 1 && Zt vs z 1) (Zt vs y 2 && Zt vs z 2) (Zt vs y 3 && Zt vs z 3):Nat):Int):=by simp [Zf2]
theorem Zea (p1 p2 p3:Bool):(((Zb4 p1 p2 p3:Nat):Int) == 0) = !(p1 || p2 || p3):=by cases p1 <;> cases p2 <;> cases p3 <;> rfl
end
theorem ZaR {α:Type} {l:List α} (h:l.length=1):∃ y,l=[y]:=by
 match l,h with
 | [y],_=>exact ⟨y,rfl⟩
theorem Zlh {α:Type} {l:List α} (h:l.length=2):∃ y z,l=[y,z]:=by
 match l,h with
 | [y,z],_=>exact ⟨y,z,rfl⟩
theorem Zm7 {α:Type} {l:List α} (h:l.length=0):l=[]:=List.length_eq_zero_iff.1 h
end
theorem ZC (W:World):∃ (ι:Type) (F:ι→World) (i0:ι),F i0=W.drew∧(∀ i,Below W.heap.size W (F i))∧(∀ i w',Below (F i).heap.size (F i) w'→∃ j,w'=F j) :=
 ⟨{ w':World // Below W.heap.size W w' },Subtype.val,⟨W.drew,(Below.refl _ _).drew⟩,rfl,fun i=>i.2,fun i w' h=>⟨⟨w',i.2.trans (h.mono i.2.size)⟩,rfl⟩⟩
theorem Zb {P:Program} {ι:Type} (F:ι→World) (i0:ι) {id:Nat} {Q:Exit→Act→World→Prop} {a:Act} {w:World} {l:List Oper} (h0:F i0=w.drew) (hm:P.follows .mixedOrders=true) (hB:Region.lexB .any l.toArray=true)
  (h:wpQuiet P l.toArray (fun w'=>∃ i,w'=F i) (fun a'=>∀ i,Q .normal a' (F i)) l a):(Code.region id l.toArray true).wp P Q a w:=by
 refine wp_region_quiet (C:=fun w'=>∃ i,w'=F i) hm hB ⟨i0,h0.symm⟩ ?_
 have e:(fun a':Act=>∀ w',(∃ i,w'=F i)→Q .normal a' w')=fun a'=>∀ i,Q .normal a' (F i):=by
  funext a'
  exact propext ⟨fun h i=>h _ ⟨i,rfl⟩,fun h w' ⟨i,hi⟩=>hi ▸ h i⟩
 rw [e]
 simpa using h
end Go.Proofs.YtjndhfcfcedheaaGreatDoor
