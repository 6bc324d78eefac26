/- Texts that belong together: KGB UO US UT. -/
import Derived.Test.YtjndhfcfcedheaaGreatDoorHK7
import Derived.Test.YtjndhfcfcedheaaGreatDoorHK3
import Derived.Deep.MidRow
import Derived.Deep.WholeRow
import Derived.Test.YtjndhfcfcedheaaGreatDoorHK4
set_option linter.unusedVariables false
set_option linter.unusedSimpArgs false
set_option maxRecDepth 100000
set_option maxHeartbeats 16000000
namespace Go.Proofs.YtjndhfcfcedheaaGreatDoor
open Go.RowKit
def ZlE:Array Value:=#[.int .u8 0,.int .u8 0,.int .u8 0,.int .u8 0,.int .i32 0,.int .i64 0,.slice none 0 0,.int .i64 0,.int .u8 0,.int .i64 0,.slice none 0 0,.int .u8 0,.int .u8 0,.int .u8 0,.int .i32 0,.int .i64 0,.slice none 0 0,.slice none 0 0]
theorem ZgH:(Tryz.prog.info? 109).map (·.size)=some 18:=by kernel_rfl
theorem GAt.range {w:World} {b o:Nat} {g:KG} (h:GAt w b o g):w.rangeAt b o g.flat.toList:=by
 intro j v hj;obtain ⟨c0,c1,c2,c3,c4,c5,c6,c7,c8,c9,c10,c11,c12,c13,c14,c15,c16,c17⟩:=h
 match j,hj with
 | 0,hj=>cases hj; exact c0
 | 1,hj=>cases hj; exact c1
 | 2,hj=>cases hj; exact c2
 | 3,hj=>cases hj; exact c3
 | 4,hj=>cases hj; exact c4
 | 5,hj=>cases hj; exact c5
 | 6,hj=>cases hj; exact c6
 | 7,hj=>cases hj; exact c7
 | 8,hj=>cases hj; exact c8
 | 9,hj=>cases hj; exact c9
 | 10,hj=>cases hj; exact c10
 | 11,hj=>cases hj; exact c11
 | 12,hj=>cases hj; exact c12
 | 13,hj=>cases hj; exact c13
 | 14,hj=>cases hj; exact c14
 | 15,hj=>cases hj; exact c15
 | 16,hj=>cases hj; exact c16
 | 17,hj=>cases hj; exact c17
 | n+18,hj=>simp [KG.flat] at hj
theorem Zaf {ops:Array Oper} {rest:List Oper} {op:Oper} {a:Act} {w:World} {Q:Exit→Act→World→Prop} (hgd:op.guard=none) (x:Operand) (ho:op.op = .load 109 x) {b o:Nat} (hx:a.eval x = .pointer (some ⟨b,o,none⟩)) {g:KG} (hG:GAt w b o g)
  (h:wpList Tryz.prog ops Q rest (a.put op.dst (.agg g.flat)) w):wpList Tryz.prog ops Q (op :: rest) a w :=
 wpList_load_mid hgd _ x ho b o hx g.flat.toList _ hG.range Tryz.underlying109 rfl ZgH h
theorem Zf9 {op:Oper} {a:Act} {w:World} {K:Act→World→Prop} {Q:Exit→Act→World→Prop} (x y:Operand) (ho:op.op = .store 109 x y) {g:KG} (hx:a.eval x = .pointer (some ⟨w.heap.size,0,none⟩)) (hy:a.eval y = .agg g.flat)
  (h:K (a.put op.dst undef) (w.alloc (.cells g.flat 109))):op.wp Tryz.prog a (w.alloc (.cells ZlE 109)) K Q:=by
 unfold Oper.wp execOp;simp only [ho,hx,hy,Instr.storeAt,Instr.sureAddr,Sem.run_bind,Sem.run_pure,Result.andThen_ok,run_storeVar_new (P:=Tryz.prog) w 109 ZlE g.flat ZgH rfl (by simp [KG.flat,Value.oneCell'])];exact h
theorem Z9 {ops:Array Oper} {rest:List Oper} {op:Oper} {a:Act} {w:World} {Q:Exit→Act→World→Prop} (hgd:op.guard=none) (x y:Operand) (ho:op.op = .store 109 x y) {g:KG} (hx:a.eval x = .pointer (some ⟨w.heap.size,0,none⟩)) (hy:a.eval y = .agg g.flat)
  (h:wpList Tryz.prog ops Q rest (a.put op.dst undef) (w.alloc (.cells g.flat 109))):wpList Tryz.prog ops Q (op :: rest) a (w.alloc (.cells ZlE 109)) :=
 wpList_plain hgd fun _ hK=>Zf9 x y ho hx hy (hK _ _ h)
section
theorem Ze4 {n m:Nat} {P:Program} {l:Nat} {f:FuncId} {tmps:Array Value} {assign body:Code} {w:World} {R:Ending→World→Prop} (h:RoundIn Fence.wide n P l f tmps assign body w R):RoundIn Fence.wide m P l f tmps assign body w R :=
 ⟨h.1,fun c cs _=>h.2 c cs (room_wide _)⟩
theorem ZeR {n m:Nat} {P:Program} {l:Nat} {args:Array Value} {w:World} {R:Ending→World→Prop} (h:YieldAt Fence.wide n P l args w R):YieldAt Fence.wide m P l args w R:=by
 obtain ⟨fn,tmps,assign,body,h1,h2⟩:=h;exact ⟨fn,tmps,assign,body,h1,Ze4 h2⟩
def XS (S0 bw:Nat) (s:PlS) (k:Nat):Prop:=(k < S0∧k≠bw)∨s.vt.ownBlock=some k
def Zoc (s:PlS) (x:KP×Nat):PlS:={ s with pl:={ s.pl with uses:=s.pl.uses++[x] } }
def Zpp (x:KP×Nat):Array Value:=#[.agg x.1.cells,.int .i64 x.2]
structure Zet (p:KP) (l B S0 bw:Nat) (T:List (KP×Nat)→Nat→Nat) (J:List (KP×Nat)→World→Prop) (FP:Zr):Prop where
 hB:B≤S0
 hJ:∀ pre a b,J pre a→Zcc S0 (fun k=>k=bw) a b→J pre b
 hT:∀ us f,(∀ u∈us,u.2≠f)→T us f=0
 hD:∀ pre W,J pre W→p.In W B
 h1:FP.par.length≤1000000
 h3:FP.grp.length≤1000000
 hY:∀ s x W1,J s.pl.uses W1→ZH S0 bw T s W1→Zak s.pl→x.2 < s.pl.par.length→s.pl.par <+: FP.par→s.pl.uses++[x] <+: FP.uses→YieldAt Fence.wide 0 Tryz.prog l (Zpp x) W1 fun e W'=>e = .returned (.bool true)∧J (s.pl.uses++[x]) W'∧ZH S0 bw T (Zoc s x) W'∧Z0 (XS S0 bw s) W1 W'
section
variable {p x:KP} {l B S0 bw:Nat} {T:List (KP×Nat)→Nat→Nat} {J:List (KP×Nat)→World→Prop} {FP:Zr}
theorem Zet.part (h:Zet p l B S0 bw T J FP) (hx:x∈p.l):Zet x l B S0 bw T J FP:=⟨h.hB,h.hJ,h.hT,fun pre W hj=>(h.hD pre W hj).part hx,h.h1,h.h3,h.hY⟩
theorem Zet.guard {g:KG} (h:Zet p l B S0 bw T J FP) (hg:g∈p.g) (hx:x∈g.body):Zet x l B S0 bw T J FP:=⟨h.hB,h.hJ,h.hT,fun pre W hj=>(h.hD pre W hj).guard hg hx,h.h1,h.h3,h.hY⟩
end
def ZqA (S0 bw:Nat) (T:List (KP×Nat)→Nat→Nat) (J:List (KP×Nat)→World→Prop) (s:PlS) (pl':Zr) (W:World) (e:Ending) (W':World):Prop :=
 e = .returned (.bool true)∧∃ s',s'.pl=pl'∧J pl'.uses W'∧ZH S0 bw T s' W'∧Zbn S0 s W s' W'
def Zf4 (p:KP):Prop:=∀ (l f B S0 bw:Nat) (T:List (KP×Nat)→Nat→Nat) (J:List (KP×Nat)→World→Prop) (FP:Zr) (s:PlS) (W:World),Zet p l B S0 bw T J FP→Zak s.pl→f < s.pl.par.length→Ext (Z7 f p s.pl) FP→J s.pl.uses W→ZH S0 bw T s W →
 Calls Tryz.prog 42 #[.pointer (some ⟨bw,0,none⟩),.agg p.cells,.int .i64 f,.func (.yield l) #[] #[]] W (ZqA S0 bw T J s (Z7 f p s.pl) W)
structure VsS (S0 bw:Nat) (T:List (KP×Nat)→Nat→Nat) (J:List (KP×Nat)→World→Prop) (s0:PlS) (W:World) (cs:Array Value) (s:PlS) (wr:World):Prop where
 j:J s.pl.uses wr
 pa:ZH S0 bw T s wr
 kp:Zbn S0 s0 W s wr
 pb:Blk wr W.heap.size 31 cs
 nr:¬ ZcT s W.heap.size
def GrL (S0:Nat) (W:World) (vl:Value) (ch:List Nat) (s:PlS) (wr:World):Prop:=wr.ownsRow W.heap.size 3 1 vl ch.length (ZbS ch)∧∀ k,vl.ownBlock=some k→¬ ZcT s k
theorem ZH.row_lt {S0 bw:Nat} {T:List (KP×Nat)→Nat→Nat} {s:PlS} {W:World} (h:ZH S0 bw T s W) {k:Nat} (hk:ZcT s k) (hl:s.vs.length=s.pl.grp.length):S0≤k∧k < W.heap.size:=by
 rcases hk with hk | hk | hk | ⟨v,hv,hk⟩
 ·exact h.fr.lt k hk
 ·exact h.tm.lt k hk
 ·exact h.gp.1.lt k hk
 ·obtain ⟨i,hi⟩:=List.mem_iff_getElem?.1 hv;have hil:=(List.getElem?_eq_some_iff.1 hi).1;obtain ⟨v',h1,h2,-⟩:=h.gp.2.2 i s.pl.grp[i] (List.getElem?_eq_getElem (by omega));rw [hi] at h1;obtain rfl:=Option.some.inj h1;exact h2.lt k hk
theorem ZhX.len {S0:Nat} {vg vt:Value} {vs:List Value} {grp:List (List Nat)} {W:World} (h:ZhX S0 vg vt vs grp W):vs.length=grp.length:=by have:=h.1.1; omega
section
variable {p x:KP} {l B S0 bw f:Nat} {T:List (KP×Nat)→Nat→Nat} {J:List (KP×Nat)→World→Prop} {FP:Zr} {s0 s s':PlS} {W wr w':World} {cs:Array Value} {vl:Value} {ch:List Nat}
theorem VsS.start (hw:Zet p l B S0 bw T J FP) (hj:J s.pl.uses W) (hp:ZH S0 bw T s W):VsS S0 bw T J s W p.cells s (W.alloc (.cells p.cells 31)):=by
 have hb:Below W.heap.size W (W.alloc (.cells p.cells 31)):=(Below.refl _ _).alloc (Nat.le_refl _) _;exact ⟨hw.hJ _ _ _ hj (Zcc.below hb hp.hi),hp.call hb,Zbn.of_below hb,Blk.new _ _ _,fun h=>by have:=(hp.row_lt h hp.gp.len).2; omega⟩
theorem VsS.size (h:VsS S0 bw T J s0 W cs s wr):W.heap.size < wr.heap.size:=h.pb.lt
theorem VsS.hS (h:VsS S0 bw T J s0 W cs s wr):S0≤wr.heap.size:=h.pa.hi
theorem VsS.call (hw:Zet p l B S0 bw T J FP) (h:VsS S0 bw T J s0 W cs s wr) (hb:Below wr.heap.size wr w'):VsS S0 bw T J s0 W cs s w' :=
 ⟨hw.hJ _ _ _ h.j (Zcc.below hb h.hS),h.pa.call hb,h.kp.trans (Zbn.of_below hb),h.pb.call hb,h.nr⟩
theorem VsS.more (h:VsS S0 bw T J s0 W cs s wr) (hS:S0≤W.heap.size) (hj:J s'.pl.uses w') (hp:ZH S0 bw T s' w') (hk:Zbn S0 s wr s' w'):VsS S0 bw T J s0 W cs s' w' :=
 ⟨hj,hp,h.kp.trans hk,hk.blk h.pb hS h.nr,hk.stay h.size h.nr⟩
theorem Zbn.yield (hk:Z0 (XS S0 bw s) wr w') (u:KP×Nat):Zbn S0 s wr (Zoc s u) w' :=
 ⟨hk.size,fun k h=>.inl h,fun k cs t f hS hn ho=>hk.block k cs t f (fun hx=>by
  rcases hx with hx | hx
  ·omega
  ·exact hn (.inr (.inl hx))) ho⟩
theorem GrL.nil (S0:Nat) (W:World) (s:PlS) (wr:World):GrL S0 W (.slice none 0 0) [] s wr:=⟨wr.ownsRow_nil _ _ _,fun k hk=>by cases hk⟩
theorem GrL.more (h:GrL S0 W vl ch s wr) (hS:S0≤W.heap.size) (hk:Zbn S0 s wr s' w'):GrL S0 W vl ch s' w':=by
 refine ⟨Zp h.1 fun k hv=>?_,fun k hv=>hk.stay (h.1.lt k hv).2 (h.2 k hv)⟩;obtain ⟨c,hb⟩:=ZN h.1 hv;exact (hk.blk hb (Nat.le_trans hS (h.1.lt k hv).1) (h.2 k hv)).trans hb.symm
theorem GrL.call (h:GrL S0 W vl ch s wr) (hb:Below wr.heap.size wr w'):GrL S0 W vl ch s w':=⟨h.1.below hb,h.2⟩
theorem GrL.grow (hw:Zet p l B S0 bw T J FP) (hv:VsS S0 bw T J s0 W cs s wr) (hS:S0≤W.heap.size) (h:GrL S0 W vl ch s wr) {vl':Value} {c n:Nat} (hn:ch.length=n) (ho:w'.ownsRow W.heap.size 3 1 vl' (n+1) (ZbS ch++[.int .i64 c])) (hg:wr.grownBy w' vl.ownBlock) (hat:vl'.ownBlock=vl.ownBlock∨vl'.ownBlock=some wr.heap.size) :
  VsS S0 bw T J s0 W cs s w'∧GrL S0 W vl' (ch++[c]) s w':=by
 subst hn;have hne:∀ k,ZcT s k→some k≠vl.ownBlock:=fun k hk e=>h.2 k e.symm hk;have hrow:∀ {base e size n:Nat} {v:Value} {xs:List Value},wr.ownsRow base e size v n xs→(∀ k,v.ownBlock=some k→ZcT s k)→w'.ownsRow base e size v n xs:=fun hv hr=>Zp hv fun k hk=>hg.block k (hv.lt k hk).2 (hne k (hr k hk));have hlow:∀ k,k < S0→w'.heap[k]? = wr.heap[k]?:=fun k hk=>hg.block k (by have:=hv.hS; omega) (fun e=>by have:=(h.1.lt k e.symm).1; omega)
 have hp:ZH S0 bw T s w':=by
  refine ⟨hv.pa.lo,Nat.le_trans hv.pa.hi hg.size,(hlow bw hv.pa.lo).trans hv.pa.blk,hrow hv.pa.fr fun k hk=>.inl hk,hrow hv.pa.tm fun k hk=>.inr (.inl hk),⟨hrow hv.pa.gp.1 fun k hk=>.inr (.inr (.inl hk)),hv.pa.gp.2.1,fun i g hgi=>?_⟩,hv.pa.fl⟩;obtain ⟨v,q1,q2,q3⟩:=hv.pa.gp.2.2 i g hgi;exact ⟨v,q1,hrow q2 fun k hk=>.inr (.inr (.inr ⟨v,List.mem_of_getElem? q1,hk⟩)),q3⟩
 have hst:Zcc S0 (fun k=>k=bw) wr w':=⟨⟨hg.os,hg.tape,hg.output,hg.size,fun k hk _=>hlow k hk⟩,Zck hg fun k hk=>ZN h.1 hk⟩
 refine ⟨⟨hw.hJ _ _ _ hv.j hst,hp,⟨Nat.le_trans hv.kp.size hg.size,hv.kp.rows,fun k cs t f hk hn hob=>?_⟩,?_,hv.nr⟩,?_,fun k hk=>?_⟩
 ·have h1:=hv.kp.keep k cs t f hk hn hob;refine (hg.block k (Array.getElem?_eq_some_iff.1 h1).1 fun e=>?_).trans h1;have:=(h.1.lt k e.symm).1;have:=(Array.getElem?_eq_some_iff.1 hob).1
  omega
 ·exact hv.pb.grown hg fun e=>Zg h.1 hv.pb (by decide) e.symm
 ·rw [List.length_append,List.length_singleton]
  simpa [ZbS,Zmc] using ho
 ·rcases hat with e | e
  ·exact h.2 k (e ▸ hk)
  ·rw [e] at hk
   injection hk with hk
   intro hr;have:=(hv.pa.row_lt hr hv.pa.gp.len).2
   omega
theorem VsS.group (hw:Zet p l B S0 bw T J FP) (h:VsS S0 bw T J s0 W cs s wr) (hS:S0≤W.heap.size) (hl:GrL S0 W vl ch s wr) (hone:vl.oneCell'=true) {vg':Value} (ho:w'.ownsRow S0 32 1 vg' (s.pl.grp.length+1) (s.vs++[vl])) (hg:wr.grownBy w' s.vg.ownBlock) (hat:vg'.ownBlock=s.vg.ownBlock∨vg'.ownBlock=some wr.heap.size) :
  ∃ s',s'.pl = { s.pl with grp:=s.pl.grp++[ch],out:=s.pl.out++[f] }∧s'.vf=s.vf∧s'.vt=s.vt∧VsS S0 bw T J s0 W cs s' (w'.setCell ⟨bw,2,none⟩ vg'):=by
 have hne:some bw≠s.vg.ownBlock:=fun e=>Zg h.pa.gp.1 h.pa.blk (by decide) e.symm;have hb':=h.pa.blk.grown hg hne;have hfar:∀ k,k≠bw→(w'.setCell ⟨bw,2,none⟩ vg').heap[k]? = w'.heap[k]?:=fun k hk=>Below.heap_setCell w' _ vg' k hk;have hbk:∀ k,k < wr.heap.size→k≠bw→s.vg.ownBlock≠some k→(w'.setCell ⟨bw,2,none⟩ vg').heap[k]? = wr.heap[k]?:=fun k hk hkb hkv=>(hfar k hkb).trans (hg.block k hk (fun e=>hkv e.symm))
 have hown:∀ {base e size n:Nat} {v:Value} {xs:List Value},wr.ownsRow base e size v n xs→e≠32→e≠57→∀ k,v.ownBlock=some k→(w'.setCell ⟨bw,2,none⟩ vg').heap[k]? = wr.heap[k]?:=fun hv he1 he2 k hk =>
  hbk k (hv.lt k hk).2 (fun e=>Zg hv h.pa.blk he2 (e ▸ hk)) (fun e=>Zc8 hv h.pa.gp.1 he1 hk e)
 have hst:Zcc S0 (fun k=>k=bw) wr (w'.setCell ⟨bw,2,none⟩ vg'):=by
  refine ⟨⟨hg.os,hg.tape,hg.output,by simpa using hg.size,fun k hk hkb=>?_⟩,(Zck hg fun k hk=>ZN h.pa.gp.1 hk).trans (ZeH hb' 2 vg')⟩;exact hbk k (by have:=h.hS; omega) hkb (fun e=>by have:=(h.pa.gp.1.lt k e).1; omega)
 have hlen:=h.pa.gp.len;refine ⟨⟨{ s.pl with grp:=s.pl.grp++[ch],out:=s.pl.out++[f] },s.vf,s.vt,vg',s.vs++[vl]⟩,rfl,rfl,rfl,hw.hJ _ _ _ h.j hst,⟨h.pa.lo,Nat.le_trans h.pa.hi hst.bel.size,by simpa using hb'.set_ 2 vg',Zp h.pa.fr (hown h.pa.fr (by decide) (by decide)),Zp h.pa.tm (hown h.pa.tm (by decide) (by decide)),⟨?_,fun v hv=>?_,fun i g hgi=>?_⟩,h.pa.fl⟩,⟨Nat.le_trans h.kp.size hst.bel.size,fun k hk=>?_,fun k cs t f hk hn hob=>?_⟩,?_,?_⟩
 ·simp only [List.length_append,List.length_singleton];exact Zp ho fun k hk=>hfar k fun e=>Zg ho hb' (by decide) (e ▸ hk)
 ·rcases List.mem_append.1 hv with hv | hv
  ·exact h.pa.gp.2.1 v hv
  ·simp at hv; subst hv; exact hone
 ·by_cases hi:i < s.pl.grp.length
  ·simp only [List.getElem?_append_left hi] at hgi;obtain ⟨v,q1,q2,q3⟩:=h.pa.gp.2.2 i g hgi;exact ⟨v,by rw [List.getElem?_append_left (by omega)]; exact q1,Zp q2 (hown q2 (by decide) (by decide)),q3⟩
  ·simp only [List.getElem?_append_right (Nat.le_of_not_lt hi)] at hgi
   have h0:i - s.pl.grp.length=0:=by have:=(List.getElem?_eq_some_iff.1 hgi).1; simp at this; omega
   rw [h0] at hgi;simp at hgi;subst hgi;refine ⟨vl,by rw [List.getElem?_append_right (by omega),show i - s.vs.length=0 by omega]; rfl,Zp ⟨hl.1.1,?_⟩ (hown hl.1 (by decide) (by decide)),fun k hk e=>hl.2 k hk (.inr (.inl e))⟩
   rcases hl.1.2 with q | ⟨b,cap,cur,e,q1,q2⟩
   ·exact .inl q
   ·exact .inr ⟨b,cap,cur,e,Nat.le_trans hS q1,q2⟩
 ·rcases hk with hk | hk | hk | ⟨v,hv,hk⟩
  ·exact h.kp.rows k (.inl hk)
  ·exact h.kp.rows k (.inr (.inl hk))
  ·rcases hat with e | e
   ·exact h.kp.rows k (.inr (.inr (.inl (e ▸ hk))))
   ·rw [e] at hk; injection hk with hk; have:=h.size; exact .inr (by omega)
  ·rcases List.mem_append.1 hv with hv | hv
   ·exact h.kp.rows k (.inr (.inr (.inr ⟨v,hv,hk⟩)))
   ·simp at hv; subst hv; exact .inr (hl.1.lt k hk).1
 ·have h1:=h.kp.keep k cs t f hk hn hob;refine (hbk k (Array.getElem?_eq_some_iff.1 h1).1 (by have:=h.pa.lo; omega) fun e=>?_).trans h1
  rcases h.kp.rows k (.inr (.inr (.inl e))) with h2 | h2
  ·exact hn h2
  ·have:=(Array.getElem?_eq_some_iff.1 hob).1; omega
 ·refine (hbk _ h.size (by have:=h.pa.lo; omega) fun e=>h.nr (.inr (.inr (.inl e)))).trans h.pb
 ·rintro (hk | hk | hk | ⟨v,hv,hk⟩)
  ·exact h.nr (.inl hk)
  ·exact h.nr (.inr (.inl hk))
  ·have:=Zg (ho) (h.pb.grown hg fun e=>Zg h.pa.gp.1 h.pb (by decide) e.symm) (by decide);exact this hk
  ·rcases List.mem_append.1 hv with hv | hv
   ·exact h.nr (.inr (.inr (.inr ⟨v,hv,hk⟩)))
   ·simp at hv; subst hv;exact Zg hl.1 h.pb (by decide) hk
def ZnH (S0 bw:Nat) (T:List (KP×Nat)→Nat→Nat) (J:List (KP×Nat)→World→Prop) (s0:PlS) (W:World) (cs:Array Value) (s:PlS) (pl':Zr) (w1:World) (e:Ending) (w':World):Prop :=
 e = .returned (.bool true)∧∃ s',Hid (s'.pl=pl')∧Hid (VsS S0 bw T J s0 W cs s' w')∧Hid (Zbn S0 s w1 s' w')
theorem VsS.visit {w1:World} {fr:Nat} (hx:Zf4 x) (hw:Zet x l B S0 bw T J FP) (hS:S0≤W.heap.size) (ht:Zak s.pl) (hf:fr < s.pl.par.length) (he:Ext (Z7 fr x s.pl) FP) (h:VsS S0 bw T J s0 W cs s w1) :
  Calls Tryz.prog 42 #[.pointer (some ⟨bw,0,none⟩),.agg x.cells,.int .i64 fr,.func (.yield l) #[] #[]] w1 (ZnH S0 bw T J s0 W cs s (Z7 fr x s.pl) w1):=by
 refine (hx l fr B S0 bw T J FP s w1 hw ht hf he h.j h.pa).mono ?_;rintro e w2 ⟨rfl,s',h1,h2,h3,h4⟩;exact ⟨rfl,s',Lh h1,Lh (h.more hS (by rw [h1]; exact h2) h3 h4),Lh h4⟩
def RetWf (S0 bw:Nat) (T:List (KP×Nat)→Nat→Nat) (J:List (KP×Nat)→World→Prop) (s0:PlS) (W:World) (cs:Array Value) (s:PlS) (f:Nat) (w1:World) (e:Ending) (w':World):Prop :=
 e = .returned (.int .i64 s.pl.par.length)∧∃ s',Hid (s'.pl=ZaC f s.pl)∧Hid (VsS S0 bw T J s0 W cs s' w')∧Hid (Zbn S0 s w1 s' w')
theorem VsS.frame {w1:World} (hw:Zet p l B S0 bw T J FP) (hS:S0≤W.heap.size) (ht:Zak s.pl) (hf:f < s.pl.par.length) (hl:s.pl.par.length≤1000000) (h:VsS S0 bw T J s0 W cs s w1) :
  Calls Tryz.prog 43 #[.pointer (some ⟨bw,0,none⟩),.int .i64 f] w1 (RetWf S0 bw T J s0 W cs s f w1):=by
 refine (ZnL S0 bw T s f (by unfold Zy; omega) w1 h.pa (hw.hT _ _ fun u hu=>by have:=ht.uses u hu; omega) hl).mono ?_;rintro e w2 ⟨rfl,s',h1,h2,h3,h4⟩;refine ⟨rfl,s',Lh h1,Lh (h.more hS ?_ h2 h3),Lh h3⟩
 have:s'.pl.uses=s.pl.uses:=by rw [h1]
 rw [this];exact hw.hJ _ _ _ h.j h4
end
end
section
structure UsL where
 gv:Nat
 lv:Array Value
 gc:Nat
 lc:Array Value
 ge:Nat
 le:Array Value
def UsL.cells (u:UsL):Array Value:=#[.func (.func u.gv) #[] u.lv,.func (.func u.gc) #[] u.lc,.func (.func u.ge) #[] u.le]
def Zbw (g:Nat):Prop:=∀ args w,(callFunc g args).run Tryz.prog w = .ok (.enter g args) w
def Zkg (S0:Nat) (I:List Ev→World→Prop) (pre:List Ev) (W:World) (e:Ending) (W':World):Prop:=e = .returned (.tuple #[])∧I pre W'∧Z0 (fun k=>k < S0) W W'
structure ZdK (u:UsL) (D:World→Prop) (S0:Nat) (I:List Ev→World→Prop) (xs:List Ev):Prop where
 ev:Zbw u.gv
 ec:Zbw u.gc
 ee:Zbw u.ge
 hI:∀ pre a b,I pre a→Below S0 a b→I pre b
 hD:∀ pre W,I pre W→D W∧S0≤W.heap.size
 hv:∀ pre v r W,I pre W→xs=pre++.va v :: r→Calls Tryz.prog u.gv (#[.int .i64 v]++u.lv) W (Zkg S0 I (pre++[.va v]) W)
 hc:∀ pre c r W,I pre W→xs=pre++.ch c :: r→Calls Tryz.prog u.gc (#[.int .i64 c]++u.lc) W (Zkg S0 I (pre++[.ch c]) W)
 he:∀ pre e r W,I pre W→xs=pre++.ex e :: r→Calls Tryz.prog u.ge (#[.agg e.cells]++u.le) W (Zkg S0 I (pre++[.ex e]) W)
structure UsS (u:UsL) (D:World→Prop) (S0:Nat) (I:List Ev→World→Prop) (W:World) (t:TypeId) (cs:Array Value) (pre:List Ev) (wr:World):Prop where
 i:I pre wr
 k:Z0 (fun k=>k < S0) W wr
 bu:Blk wr W.heap.size 69 u.cells
 bp:Blk wr (W.heap.size+1) t cs
section
variable {u:UsL} {D:World→Prop} {S0:Nat} {I:List Ev→World→Prop} {xs:List Ev} {W wr w':World} {t:TypeId} {cs:Array Value} {pre pre':List Ev}
theorem UsS.start (hu:ZdK u D S0 I xs) (h:I pre W) (t:TypeId) (cs:Array Value):UsS u D S0 I W t cs pre ((W.alloc (.cells u.cells 69)).alloc (.cells cs t)):=by
 have hS:=(hu.hD _ _ h).2;exact ⟨hu.hI _ _ _ h (((Below.refl _ _).alloc hS _).alloc (by simp; omega) _),(Z0.alloc _ _ _).trans (Z0.alloc _ _ _),(Blk.new _ _ _).alloc _,by have:=Blk.new (W.alloc (.cells u.cells 69)) t cs; rwa [World.size_alloc] at this⟩
theorem UsS.size (hu:ZdK u D S0 I xs) (hS:S0≤W.heap.size) (h:UsS u D S0 I W t cs pre wr):W.heap.size+1 < wr.heap.size:=h.bp.lt
theorem UsS.more (hS:S0≤W.heap.size) (h:UsS u D S0 I W t cs pre wr) (hi:I pre' w') (hk:Z0 (fun k=>k < S0) wr w'):UsS u D S0 I W t cs pre' w' :=
 ⟨hi,h.k.trans hk,hk.block _ _ _ _ (by omega) h.bu,hk.block _ _ _ _ (by omega) h.bp⟩
theorem UsS.alloc (hu:ZdK u D S0 I xs) (h:UsS u D S0 I W t cs pre wr) (o:Obj):UsS u D S0 I W t cs pre (wr.alloc o) :=
 ⟨hu.hI _ _ _ h.i ((Below.refl _ _).alloc (hu.hD _ _ h.i).2 _),h.k.trans (Z0.alloc _ _ _),h.bu.alloc _,h.bp.alloc _⟩
def ZcU (u:UsL) (D:World→Prop) (S0:Nat) (I:List Ev→World→Prop) (W:World) (t:TypeId) (cs:Array Value) (pre:List Ev) (w1:World) (e:Ending) (w':World):Prop:=e = .returned (.tuple #[])∧Hid (UsS u D S0 I W t cs pre w')∧Hid (Z0 (fun k=>k < S0) w1 w')
theorem UsS.told {f:Nat} {args:Array Value} {w1:World} (hS:S0≤W.heap.size) (h:UsS u D S0 I W t cs pre w1) (hc:Calls Tryz.prog f args w1 (Zkg S0 I pre' w1)):Calls Tryz.prog f args w1 (ZcU u D S0 I W t cs pre' w1):=by
 refine hc.mono ?_;rintro e w2 ⟨rfl,hi,hk⟩;exact ⟨rfl,Lh (h.more hS hi hk),Lh hk⟩
end
def Zl9 (e:KE):Prop:=∀ (u:UsL) (D:World→Prop) (S0 B:Nat) (I:List Ev→World→Prop) (xs pre r:List Ev) (W:World),ZdK u D S0 I xs→(∀ W,D W→e.In W B)→B≤S0→I pre W→xs=pre++(evI e++r) →
 Calls Tryz.prog 62 #[.agg u.cells,.agg e.cells] W (Zkg S0 I (pre++evI e) W)
theorem uOwn (e:KE) (hin:Zl9 e) (u:UsL) (D:World→Prop) (S0 B:Nat) (I:List Ev→World→Prop) (xs pre r:List Ev) (W:World) (hu:ZdK u D S0 I xs) (hd:∀ W,D W→e.In W B) (hB:B≤S0) (hi:I pre W) (hxs:xs=pre++(evO e++r)) :
  Calls Tryz.prog 46 #[.agg u.cells,.agg e.cells] W (Zkg S0 I (pre++evO e) W):=by
 have hS:=(hu.hD _ _ hi).2;have S:=Lh (UsS.start hu hi 65 e.cells);have HC1:Hid (∀ w1:World,UsS u D S0 I W 65 e.cells pre w1→Calls Tryz.prog u.ge (#[.agg e.cells]++u.le) w1 (ZcU u D S0 I W 65 e.cells (pre++[.ex e]) w1)):=Lh fun w1 h=>h.told hS (hu.he pre e (evI e++r) w1 h.i (by rw [hxs]; rfl))
 have HC2:Hid (∀ w1:World,UsS u D S0 I W 65 e.cells (pre++[.ex e]) w1→Calls Tryz.prog 62 #[.agg u.cells,.agg e.cells] w1 (ZcU u D S0 I W 65 e.cells (pre++evO e) w1)):=Lh fun w1 h=>h.told hS (by
  have:=hin u D S0 B I xs (pre++[.ex e]) r w1 hu hd hB h.i (by rw [hxs]; simp [evO]);rw [List.append_assoc] at this
  exact this)
 have HEE:=hu.ee;unfold Zbw at HEE;obtain ⟨gv,lv,gc,lc,ge,le⟩:=u;simp only [UsL.cells,KE.cells] at S HC1 HC2 HEE ⊢;generalize hW:(W.alloc _).alloc _=W1 at S;have b1:=S.out.bu;have b2:=S.out.bp;have hz:=b2.lt;simp only [UsL.cells] at b1;obtain ⟨c0,c1,c2⟩:=b1.c3;simp at c0 c1 c2;obtain ⟨e0,e1,e2,e3,e4,e5⟩:=b2.c6;simp at e0 e1 e2 e3 e4 e5;clear b1 b2 hu hd hi hxs hin;go_enter Tryz.func46,Tryz.ntmps46
 go_upto_region 1 with fail
 clear hW
 go_wp2_with (first
  | ((with_reducible refine (HC1.out _ S.out).mono ?_); rintro e1 w2 ⟨rfl,S2,K2⟩
     have b1:=S2.out.bu;have b2:=S2.out.bp;have hz2:=b2.lt;simp only [UsL.cells] at b1;obtain ⟨c0,c1,c2⟩:=b1.c3;simp at c0 c1 c2;obtain ⟨e0,e1,e2,e3,e4,e5⟩:=b2.c6;simp at e0 e1 e2 e3 e4 e5
     clear b1 b2)
  | (go_at_call 62; (with_reducible refine (HC2.out _ S2.out).mono ?_); rintro e1 w3 ⟨rfl,S3,K3⟩))
 go_end0
 exact ⟨rfl,S3.out.i,S3.out.k⟩
theorem Zn1 (e:KE):evI e=(if e.kind=2∨e.kind=3 then [.va e.v] else [])++e.l.flatMap evI:=by
 have h:∀ l:List KE,(ZbK l).map Ev.va=l.flatMap evI:=by
  intro l
  induction l with
  | nil=>rw [ZbK]; rfl
  | cons x l ih=>rw [ZbK,List.map_append,ih]; rfl
 unfold evI;rw [ZgR,List.map_append,h]
 congr 1
 split <;> rfl
theorem Zbl {α β:Type} (f:α→List β) {l:List α} {k:Nat} {x:α} (h:l[k]? = some x):l.flatMap f=(l.take k).flatMap f++(f x++(l.drop (k+1)).flatMap f):=by
 have h1:l=l.take k++(x :: l.drop (k+1)):=by
  obtain ⟨hk,hx⟩:=List.getElem?_eq_some_iff.1 h;rw [← hx,List.getElem_cons_drop,List.take_append_drop]
 conv=>lhs; rw [h1,List.flatMap_append,List.flatMap_cons]
theorem Zat {α β:Type} (f:α→List β) {l:List α} {k:Nat} {x:α} (h:l[k]? = some x):(l.take (k+1)).flatMap f=(l.take k).flatMap f++f x:=by
 rw [List.take_add_one,h,Option.toList_some,List.flatMap_append,List.flatMap_cons,List.flatMap_nil,List.append_nil]
theorem Zfe {w:World} {B:Nat} {A:Option Addr} {l:List KE} (h:Zbm w B A l) {k:Nat} (hk:k < l.length) :
  ∃ b off x,A=some ⟨b,off,none⟩∧b < B∧l[k]? = some x∧x∈l∧x.In w B∧w.cell? ⟨b,off+k * 6,none⟩=some (.int .u8 x.kind)∧w.cell? ⟨b,off+k * 6+1,none⟩=some (.int .u8 x.oper)∧w.cell? ⟨b,off+k * 6+2,none⟩=some (.int .u8 x.tk)∧w.cell? ⟨b,off+k * 6+3,none⟩=some (.int .i32 x.n)∧w.cell? ⟨b,off+k * 6+4,none⟩=some (.int .i64 x.v)∧w.cell? ⟨b,off+k * 6+5,none⟩=some (.slice x.A x.l.length x.c):=by
 obtain ⟨b,off,x,h1,h2,h3,h4,hc⟩:=Zln h hk;exact ⟨b,off,x,h1,h2,h3,List.mem_of_getElem? h3,h4,hc 0 _ rfl,hc 1 _ rfl,hc 2 _ rfl,hc 3 _ rfl,hc 4 _ rfl,hc 5 _ rfl⟩
theorem Zmo (e:KE) (hall:∀ x∈e.l,Zl9 x):Zl9 e:=by
 intro u D S0 B I xs pre r W hu hd hB hi hxs;have hS:=(hu.hD _ _ hi).2;have HU:=Lh hu;have HD:Hid (∀ W,D W→Zbm W B e.A e.l):=Lh fun W h=>(hd W h).parts;have HALL:=Lh hall;have hk64:=(hd W (hu.hD _ _ hi).1).one.1.1;have hlen:=(hd W (hu.hD _ _ hi).1).parts.1;unfold ZB at hlen;have S:=Lh (UsS.start hu hi 65 e.cells);rw [Zn1] at hxs;have HXS:=Lh hxs
 obtain ⟨n,hn⟩:∃ n,e.l.length=n:=⟨_,rfl⟩
 have HN:=Lh hn
 obtain ⟨PA,hPA⟩:∃ q,e.A=q:=⟨_,rfl⟩
 have HPA:=Lh hPA
 have HE:Hid (∀ e' w',Zkg S0 I (pre++((if e.kind=2∨e.kind=3 then [.va e.v] else [])++e.l.flatMap evI)) W e' w'→Zkg S0 I (pre++evI e) W e' w'):=Lh fun e' w' h=>by rw [Zn1]; exact h
 refine Calls.mono ?_ HE.out
 obtain ⟨fin,hfin⟩:∃ fin,pre++((if e.kind=2∨e.kind=3 then [Ev.va e.v] else [])++e.l.flatMap evI)=fin:=⟨_,rfl⟩
 have HFIN:=Lh hfin;rw [hfin];clear hfin;have HC1:Hid (∀ w1:World,(e.kind=2∨e.kind=3)→UsS u D S0 I W 65 #[.int .u8 e.kind,.int .u8 e.oper,.int .u8 e.tk,.int .i32 e.n,.int .i64 e.v,.slice PA n e.c] pre w1→Calls Tryz.prog u.gv (#[.int .i64 e.v]++u.lv) w1 (ZcU u D S0 I W 65 #[.int .u8 e.kind,.int .u8 e.oper,.int .u8 e.tk,.int .i32 e.n,.int .i64 e.v,.slice PA n e.c] (pre++[.va e.v]) w1)):=Lh fun w1 hk h=>h.told hS (HU.out.hv pre e.v (e.l.flatMap evI++r) w1 h.i (by rw [HXS.out,if_pos hk]; simp));have HCI:Hid (∀ (w1:World) (x:KE) (p1 r1:List Ev),x∈e.l→xs=p1++(evI x++r1)→UsS u D S0 I W 65 #[.int .u8 e.kind,.int .u8 e.oper,.int .u8 e.tk,.int .i32 e.n,.int .i64 e.v,.slice PA n e.c] p1 w1→Calls Tryz.prog 62 #[.agg u.cells,.agg x.cells] w1 (ZcU u D S0 I W 65 #[.int .u8 e.kind,.int .u8 e.oper,.int .u8 e.tk,.int .i32 e.n,.int .i64 e.v,.slice PA n e.c] (p1++evI x) w1)):=Lh fun w1 x p1 r1 hx hp h=>h.told hS (HALL.out x hx u D S0 B I xs p1 r1 w1 HU.out (fun W hW=>(HD.out W hW).2.2 x hx) hB h.i hp);have HEV:=hu.ev;unfold Zbw at HEV;have HSD:Hid (∀ p w,I p w→D w∧S0≤w.heap.size):=Lh hu.hD;have HAL:Hid (∀ (p1:List Ev) (w1:World) (o:Obj),UsS u D S0 I W 65 #[.int .u8 e.kind,.int .u8 e.oper,.int .u8 e.tk,.int .i32 e.n,.int .i64 e.v,.slice PA n e.c] p1 w1→UsS u D S0 I W 65 #[.int .u8 e.kind,.int .u8 e.oper,.int .u8 e.tk,.int .i32 e.n,.int .i64 e.v,.slice PA n e.c] p1 (w1.alloc o)):=Lh fun p1 w1 o h=>h.alloc HU.out o;obtain ⟨gv,lv,gc,lc,ge,le⟩:=u;simp only [UsL.cells,KE.cells,hn,hPA] at S HC1 HCI HEV ⊢;rw [hn] at hlen;clear hu hd hi hxs hall hn hPA HU;generalize hW:(W.alloc _).alloc _=W1 at S
 obtain ⟨us,hus⟩:∃ us:UsL,us=⟨gv,lv,gc,lc,ge,le⟩:=⟨_,rfl⟩
 have HUS:=Lh hus;rw [← hus] at S HC1 HCI HAL;have b1:=S.out.bu;have b2:=S.out.bp;have hz:=b2.lt;rw [hus] at b1;simp only [UsL.cells] at b1;obtain ⟨c0,c1,c2⟩:=b1.c3;simp at c0 c1 c2;obtain ⟨e0,e1,e2,e3,e4,e5⟩:=b2.c6;simp at e0 e1 e2 e3 e4 e5;clear b1 b2 hus;go_enter Tryz.func62,Tryz.ntmps62
 go_upto_region 1 with fail
 clear hW
 go_cut [13] (fun s13 wx=>s13 = .bool (decide (e.kind=2∨e.kind=3))∧wx=W1)
 case first =>
  by_cases h2:e.kind=2
  ·have y2:((e.kind:Int) == 2)=true:=by simp [h2]
   have hd:decide (e.kind=2∨e.kind=3)=true:=by simp [h2]
   have HQ:=Lh hd;clear h2 hd
   go_wp2_with fail
   go_meet;exact ⟨by rw [HQ.out],rfl⟩
  ·have y2:((e.kind:Int) == 2)=false:=by simp; omega
   by_cases h3:e.kind=3
   ·have y3:((e.kind:Int) == 3)=true:=by simp [h3]
    have hd:decide (e.kind=2∨e.kind=3)=true:=by simp [h3]
    have HQ:=Lh hd;clear h2 h3 hd
    go_wp2_with fail
    go_meet;exact ⟨by rw [HQ.out],rfl⟩
   ·have y3:((e.kind:Int) == 3)=false:=by simp; omega
    have hd:decide (e.kind=2∨e.kind=3)=false:=by simp [h2,h3]
    have HQ:=Lh hd;clear h2 h3 hd
    go_wp2_with fail
    go_meet;exact ⟨by rw [HQ.out],rfl⟩
 case rest =>
  obtain ⟨rfl,rfl⟩:=hcut
  obtain ⟨own,how⟩:∃ own:List Ev,(if e.kind=2∨e.kind=3 then [.va e.v] else [])=own:=⟨_,rfl⟩
  have HOW:=Lh how
  obtain ⟨qb,hqb⟩:∃ q,decide (e.kind=2∨e.kind=3)=q:=⟨_,rfl⟩
  have HQB:=Lh hqb;rw [hqb];clear how hqb
  cases qb
  case' false =>
   have S2:Hid (UsS us D S0 I W 65 #[.int .u8 e.kind,.int .u8 e.oper,.int .u8 e.tk,.int .i32 e.n,.int .i64 e.v,.slice PA n e.c] (pre++own) wc):=Lh (by
    have:own=[]:=by rw [← HOW.out,if_neg (of_decide_eq_false HQB.out)]
    rw [this,List.append_nil]; exact S.out)
   go_upto_region 3 with fail
  case' true =>
   go_upto_region 3 with (first
    | ((with_reducible refine (HC1.out _ (of_decide_eq_true HQB.out) S.out).mono ?_); rintro e1 w2 ⟨rfl,S2',K2⟩
       have S2:Hid (UsS us D S0 I W 65 #[.int .u8 e.kind,.int .u8 e.oper,.int .u8 e.tk,.int .i32 e.n,.int .i64 e.v,.slice PA n e.c] (pre++own) w2):=Lh (by
        have:own=[.va e.v]:=by rw [← HOW.out,if_pos (of_decide_eq_true HQB.out)]
        rw [this]; exact S2'.out)))
   clear S2' K2
  all_goals
   clear S c0 c1 c2 e0 e1 e2 e3 e4 e5;have x1:=S2.out.bp;have hpw:=x1.lt;obtain ⟨e0,e1,e2,e3,e4,e5⟩:=x1.c6;simp at e0 e1 e2 e3 e4 e5;clear x1
   go_wp2_with fail
   go_loopw [22] (fun i wr=>∃ j:Nat,j≤n∧i = .int .i64 j∧Hid (UsS us D S0 I W 65 #[.int .u8 e.kind,.int .u8 e.oper,.int .u8 e.tk,.int .i32 e.n,.int .i64 e.v,.slice PA n e.c] (pre++own++(e.l.take j).flatMap evI) wr)) (fun i _=>n - (intOf i).toNat)
   case atStart=>exact ⟨0,Nat.zero_le _,rfl,Lh (by rw [List.take_zero,List.flatMap_nil,List.append_nil]; exact S2.out)⟩
   case round =>
    clear S2 e0 e1 e2 e3 e4 e5 hpw;obtain ⟨j,hj,rfl,S⟩:=hrel;have x1:=S.out.bp;have x2:=S.out.bu;have hpw:=x1.lt;rw [HUS.out] at x2;simp only [UsL.cells] at x2;obtain ⟨e0,e1,e2,e3,e4,e5⟩:=x1.c6;simp at e0 e1 e2 e3 e4 e5;obtain ⟨c0,c1,c2⟩:=x2.c3;simp at c0 c1 c2;clear x1 x2
    by_cases hlt:j < n
    ·have hltI:(j:Int) < n:=by omega
     have hin:=HSD.out _ _ S.out.i;have hBw:B≤wr.heap.size:=Nat.le_trans hB hin.2;obtain ⟨b,off,x,hA,hb,hx,hmx,hxi,d0,d1,d2,d3,d4,d5⟩:=Zfe (HD.out _ hin.1) (k:=j) (by rw [HN.out]; exact hlt);have hbw:b < wr.heap.size:=Nat.lt_of_lt_of_le hb hBw;obtain rfl:PA=some ⟨b,off,none⟩:=HPA.out.symm.trans hA;have S2:=Lh (HAL.out _ _ (.cells x.cells 65) S.out);have bx:=Blk.new wr 65 x.cells;have HB:=Lh bx;have HXL:Hid (xs=(pre++own++(e.l.take j).flatMap evI)++(evI x++((e.l.drop (j+1)).flatMap evI++r))):=Lh (by rw [HXS.out,HOW.out,Zbl evI hx]; simp only [List.append_assoc]);have HNX:Hid (pre++own++(e.l.take (j+1)).flatMap evI=(pre++own++(e.l.take j).flatMap evI)++evI x):=Lh (by rw [Zat evI hx]; simp only [List.append_assoc]);have HC:Hid (∀ w1:World,UsS us D S0 I W 65 #[.int .u8 e.kind,.int .u8 e.oper,.int .u8 e.tk,.int .i32 e.n,.int .i64 e.v,.slice (some ⟨b,off,none⟩) n e.c] (pre++own++(e.l.take j).flatMap evI) w1→Calls Tryz.prog 62 #[.agg #[.func (.func gv) #[] lv,.func (.func gc) #[] lc,.func (.func ge) #[] le],.agg x.cells] w1 (ZcU us D S0 I W 65 #[.int .u8 e.kind,.int .u8 e.oper,.int .u8 e.tk,.int .i32 e.n,.int .i64 e.v,.slice (some ⟨b,off,none⟩) n e.c] ((pre++own++(e.l.take j).flatMap evI)++evI x) w1)):=Lh fun w1 h=>HCI.out w1 x _ _ hmx HXL.out h;simp only [KE.cells] at S2 bx HC HB;clear bx hx hmx hxi hA hin HXL
     go_upto_region 6 with fail
     generalize wr.alloc _=w2 at *;have x1:=S2.out.bp;have x2:=S2.out.bu;have bx:=HB.out;have hpw2:=x1.lt;have hxw:=bx.lt;rw [HUS.out] at x2;simp only [UsL.cells] at x2;clear c0 c1 c2 e0 e1 e2 e3 e4 e5 d0 d1 d2 d3 d4 d5 HB S hbw hBw hb hpw;obtain ⟨c0,c1,c2⟩:=x2.c3;simp at c0 c1 c2;obtain ⟨d0,d1,d2,d3,d4,d5⟩:=bx.c6;simp at d0 d1 d2 d3 d4 d5;clear x1 x2 bx
     go_wp2_with (first
      | (go_at_call 62; (with_reducible refine (HC.out _ S2.out).mono ?_); rintro e1 w3 ⟨rfl,S3,K3⟩))
     go_roundw
     case rel=>exact ⟨j+1,by omega,by go_num,Lh (by rw [HNX.out]; exact S3.out)⟩
     case measure=>simp [intOf]; omega
    ·have hltI:¬ (j:Int) < n:=by omega
     obtain rfl:n=j:=by omega
     have htk:e.l.take n=e.l:=List.take_of_length_le (by rw [HN.out]; omega);have SE:Hid (UsS us D S0 I W 65 #[.int .u8 e.kind,.int .u8 e.oper,.int .u8 e.tk,.int .i32 e.n,.int .i64 e.v,.slice PA n e.c] (pre++own++e.l.flatMap evI) wr):=Lh (by have:=S.out; rw [htk] at this; exact this);clear htk
     go_wp2_with fail
     go_end0
     exact ⟨rfl,by rw [← HFIN.out,HOW.out,← List.append_assoc]; exact SE.out.i,SE.out.k⟩
theorem Zoh (e:KE):Zl9 e:=KE.ind (Q:=Zl9) Zmo e
end
theorem Zps (e:KE) (u:UsL) (D:World→Prop) (S0 B:Nat) (I:List Ev→World→Prop) (xs pre r:List Ev) (W:World) (hu:ZdK u D S0 I xs) (hd:∀ W,D W→e.In W B) (hB:B≤S0) (hi:I pre W) (hxs:xs=pre++(evO e++r)) :
  Calls Tryz.prog 46 #[.agg u.cells,.agg e.cells] W (Zkg S0 I (pre++evO e) W):=uOwn e (Zoh e) u D S0 B I xs pre r W hu hd hB hi hxs
theorem Zpr (p:KPl) (u:UsL) (D:World→Prop) (S0 B:Nat) (I:List Ev→World→Prop) (xs pre r:List Ev) (W:World) (hu:ZdK u D S0 I xs) (hd:∀ W,D W→p.In W B) (hB:B≤S0) (hi:I pre W) (hxs:xs=pre++(ZbN p++r)) :
  Calls Tryz.prog 45 #[.agg u.cells,.agg p.cells] W (Zkg S0 I (pre++ZbN p) W):=by
 have hS:=(hu.hD _ _ hi).2;have HU:=Lh hu;have HD:Hid (∀ W,D W→Zbm W B p.A p.l):=Lh fun W h=>(hd W h).2;have hlen:=(hd W (hu.hD _ _ hi).1).2.1;unfold ZB at hlen;have S:=Lh (UsS.start hu hi 105 p.cells);unfold ZbN at hxs ⊢;have HXS:=Lh hxs
 obtain ⟨n,hn⟩:∃ n,p.l.length=n:=⟨_,rfl⟩
 have HN:=Lh hn
 obtain ⟨PA,hPA⟩:∃ q,p.A=q:=⟨_,rfl⟩
 have HPA:=Lh hPA;have HC1:Hid (∀ w1:World,UsS u D S0 I W 105 #[.int .i64 p.v,.slice PA n p.c] pre w1→Calls Tryz.prog u.gv (#[.int .i64 p.v]++u.lv) w1 (ZcU u D S0 I W 105 #[.int .i64 p.v,.slice PA n p.c] (pre++[.va p.v]) w1)):=Lh fun w1 h=>h.told hS (HU.out.hv pre p.v (p.l.flatMap evO++r) w1 h.i (by rw [HXS.out]; simp));have HCI:Hid (∀ (w1:World) (x:KE) (p1 r1:List Ev),x∈p.l→xs=p1++(evO x++r1)→UsS u D S0 I W 105 #[.int .i64 p.v,.slice PA n p.c] p1 w1→Calls Tryz.prog 46 #[.agg u.cells,.agg x.cells] w1 (ZcU u D S0 I W 105 #[.int .i64 p.v,.slice PA n p.c] (p1++evO x) w1)):=Lh fun w1 x p1 r1 hx hp h=>h.told hS (Zps x u D S0 B I xs p1 r1 w1 HU.out (fun W hW=>(HD.out W hW).2.2 x hx) hB h.i hp);have HEV:=hu.ev;unfold Zbw at HEV;have HSD:Hid (∀ p w,I p w→D w∧S0≤w.heap.size):=Lh hu.hD;have HAL:Hid (∀ (p1:List Ev) (w1:World) (o:Obj),UsS u D S0 I W 105 #[.int .i64 p.v,.slice PA n p.c] p1 w1→UsS u D S0 I W 105 #[.int .i64 p.v,.slice PA n p.c] p1 (w1.alloc o)):=Lh fun p1 w1 o h=>h.alloc HU.out o;obtain ⟨gv,lv,gc,lc,ge,le⟩:=u;simp only [UsL.cells,KPl.cells,hn,hPA] at S HC1 HCI HEV ⊢;rw [hn] at hlen;clear hu hd hi hxs hn hPA HU;generalize hW:(W.alloc _).alloc _=W1 at S
 obtain ⟨us,hus⟩:∃ us:UsL,us=⟨gv,lv,gc,lc,ge,le⟩:=⟨_,rfl⟩
 have HUS:=Lh hus;rw [← hus] at S HC1 HCI HAL;have b1:=S.out.bu;have b2:=S.out.bp;have hz:=b2.lt;rw [hus] at b1;simp only [UsL.cells] at b1;obtain ⟨c0,c1,c2⟩:=b1.c3;simp at c0 c1 c2;obtain ⟨e0,e1⟩:=b2.c2;simp at e0 e1;clear b1 b2 hus;go_enter Tryz.func45,Tryz.ntmps45
 go_upto_region 1 with fail
 clear hW
 go_upto_region 2 with (first
  | ((with_reducible refine (HC1.out _ S.out).mono ?_); rintro e1 w2 ⟨rfl,S2,K2⟩))
 clear S K2 c0 c1 c2 e0 e1 hz;have x1:=S2.out.bp;have hpw:=x1.lt;obtain ⟨e0,e1⟩:=x1.c2;simp at e0 e1;clear x1
 go_wp2_with fail
 go_loopw [14] (fun i wr=>∃ j:Nat,j≤n∧i = .int .i64 j∧Hid (UsS us D S0 I W 105 #[.int .i64 p.v,.slice PA n p.c] (pre++[.va p.v]++(p.l.take j).flatMap evO) wr)) (fun i _=>n - (intOf i).toNat)
 case atStart=>exact ⟨0,Nat.zero_le _,rfl,Lh (by rw [List.take_zero,List.flatMap_nil,List.append_nil]; exact S2.out)⟩
 case round =>
  clear S2 e0 e1 hpw;obtain ⟨j,hj,rfl,S⟩:=hrel;have x1:=S.out.bp;have x2:=S.out.bu;have hpw:=x1.lt;rw [HUS.out] at x2;simp only [UsL.cells] at x2;obtain ⟨e0,e1⟩:=x1.c2;simp at e0 e1;obtain ⟨c0,c1,c2⟩:=x2.c3;simp at c0 c1 c2;clear x1 x2
  by_cases hlt:j < n
  ·have hltI:(j:Int) < n:=by omega
   have hin:=HSD.out _ _ S.out.i;have hBw:B≤wr.heap.size:=Nat.le_trans hB hin.2;obtain ⟨b,off,x,hA,hb,hx,hmx,hxi,d0,d1,d2,d3,d4,d5⟩:=Zfe (HD.out _ hin.1) (k:=j) (by rw [HN.out]; exact hlt);have hbw:b < wr.heap.size:=Nat.lt_of_lt_of_le hb hBw;obtain rfl:PA=some ⟨b,off,none⟩:=HPA.out.symm.trans hA;have S2:=Lh (HAL.out _ _ (.cells x.cells 65) S.out);have bx:=Blk.new wr 65 x.cells;have HB:=Lh bx;have HXL:Hid (xs=(pre++[.va p.v]++(p.l.take j).flatMap evO)++(evO x++((p.l.drop (j+1)).flatMap evO++r))):=Lh (by rw [HXS.out,Zbl evO hx]; simp only [List.append_assoc,List.cons_append,List.nil_append]);have HNX:Hid (pre++[.va p.v]++(p.l.take (j+1)).flatMap evO=(pre++[.va p.v]++(p.l.take j).flatMap evO)++evO x):=Lh (by rw [Zat evO hx]; simp only [List.append_assoc]);have HC:Hid (∀ w1:World,UsS us D S0 I W 105 #[.int .i64 p.v,.slice (some ⟨b,off,none⟩) n p.c] (pre++[.va p.v]++(p.l.take j).flatMap evO) w1→Calls Tryz.prog 46 #[.agg #[.func (.func gv) #[] lv,.func (.func gc) #[] lc,.func (.func ge) #[] le],.agg x.cells] w1 (ZcU us D S0 I W 105 #[.int .i64 p.v,.slice (some ⟨b,off,none⟩) n p.c] ((pre++[.va p.v]++(p.l.take j).flatMap evO)++evO x) w1)):=Lh fun w1 h=>HCI.out w1 x _ _ hmx HXL.out h;simp only [KE.cells] at S2 bx HC HB;clear bx hx hmx hxi hA hin HXL
   go_upto_region 5 with fail
   generalize wr.alloc _=w2 at *;have x1:=S2.out.bp;have x2:=S2.out.bu;have bx:=HB.out;have hpw2:=x1.lt;have hxw:=bx.lt;rw [HUS.out] at x2;simp only [UsL.cells] at x2;clear c0 c1 c2 e0 e1 d0 d1 d2 d3 d4 d5 HB S hbw hBw hb hpw;obtain ⟨c0,c1,c2⟩:=x2.c3;simp at c0 c1 c2;obtain ⟨d0,d1,d2,d3,d4,d5⟩:=bx.c6;simp at d0 d1 d2 d3 d4 d5;clear x1 x2 bx
   go_wp2_with (first
    | (go_at_call 46; (with_reducible refine (HC.out _ S2.out).mono ?_); rintro e1 w3 ⟨rfl,S3,K3⟩))
   go_roundw
   case rel=>exact ⟨j+1,by omega,by go_num,Lh (by rw [HNX.out]; exact S3.out)⟩
   case measure=>simp [intOf]; omega
  ·have hltI:¬ (j:Int) < n:=by omega
   obtain rfl:n=j:=by omega
   have htk:p.l.take n=p.l:=List.take_of_length_le (by rw [HN.out]; omega);have SE:Hid (UsS us D S0 I W 105 #[.int .i64 p.v,.slice PA n p.c] (pre++[.va p.v]++p.l.flatMap evO) wr):=Lh (by have:=S.out; rw [htk] at this; exact this);clear htk
   go_wp2_with fail
   go_end0
   exact ⟨rfl,by have:=SE.out.i; rw [List.append_assoc] at this; exact this,SE.out.k⟩
end Go.Proofs.YtjndhfcfcedheaaGreatDoor
