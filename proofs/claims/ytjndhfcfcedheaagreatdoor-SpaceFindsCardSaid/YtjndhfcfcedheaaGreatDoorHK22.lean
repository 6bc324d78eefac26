/- Texts that belong together: VY VZ WA. -/
import Derived.Test.YtjndhfcfcedheaaGreatDoorHK20
import Derived.Test.YtjndhfcfcedheaaGreatDoorHK18
import Derived.Test.YtjndhfcfcedheaaGreatDoorHK21
set_option linter.unusedVariables false
set_option linter.unusedSimpArgs false
set_option maxRecDepth 100000
set_option maxHeartbeats 16000000
namespace Go.Proofs.YtjndhfcfcedheaaGreatDoor
open Go.RowKit
section
structure PlR where
 pl:Zr
 vp:Value
 vu:Value
 vg:Value
 vs:List Value
def Zod (u:KP×Nat):List Value:=u.1.cells.toList++[.int .i64 u.2]
def Zh5 (us:List (KP×Nat)):List Value:=us.flatMap Zod
def ZcE (s:PlR) (k:Nat):Prop:=s.vp.ownBlock=some k∨s.vu.ownBlock=some k∨s.vg.ownBlock=some k∨∃ v∈s.vs,v.ownBlock=some k
structure Za8 (S0 bw:Nat) (s:PlR) (W:World):Prop where
 lo:S0≤bw
 hi:S0≤W.heap.size
 blk:Blk W bw 79 #[s.vp,s.vu,s.vg]
 pr:W.ownsRow S0 3 1 s.vp s.pl.par.length (ZO s.pl.par)
 us:W.ownsRow S0 81 9 s.vu s.pl.uses.length (Zh5 s.pl.uses)
 gp:ZhX S0 s.vg s.vp s.vs s.pl.grp W
structure Zcm (bw:Nat) (s:PlR) (W:World) (s':PlR) (W':World):Prop where
 bel:Zl W.heap.size (fun k=>k=bw∨ZcE s k) W W'
 rows:∀ k,ZcE s' k→ZcE s k∨W.heap.size≤k
theorem Zcm.of_below {bw:Nat} {s:PlR} {W W':World} (h:Below W.heap.size W W'):Zcm bw s W s W':=⟨Zl.of h,fun _ h=>.inl h⟩
theorem Zcm.trans {bw:Nat} {a b c:PlR} {W1 W2 W3:World} (h:Zcm bw a W1 b W2) (k:Zcm bw b W2 c W3):Zcm bw a W1 c W3:=by
 refine ⟨⟨k.bel.os.trans h.bel.os,k.bel.tape.trans h.bel.tape,k.bel.output.trans h.bel.output,Nat.le_trans h.bel.size k.bel.size,fun i hi hn=>?_⟩,fun i hi=>?_⟩
 ·refine (k.bel.block i (Nat.lt_of_lt_of_le hi h.bel.size) fun hx=>?_).trans (h.bel.block i hi hn)
  rcases hx with hx | hx
  ·exact hn (.inl hx)
  ·rcases h.rows i hx with h1 | h1
   ·exact hn (.inr h1)
   ·omega
 ·rcases k.rows i hi with h1 | h1
  ·exact h.rows i h1
  ·exact .inr (Nat.le_trans h.bel.size h1)
theorem Zcm.stay {bw:Nat} {s s':PlR} {W W':World} (h:Zcm bw s W s' W') {k:Nat} (hk:k < W.heap.size) (hn:¬ ZcE s k):¬ ZcE s' k:=fun hr=>by
 rcases h.rows k hr with h1 | h1
 ·exact hn h1
 ·omega
theorem Za8.row_lt {S0 bw:Nat} {s:PlR} {W:World} (h:Za8 S0 bw s W) {k:Nat} (hk:ZcE s k):S0≤k∧k < W.heap.size:=by
 rcases hk with hk | hk | hk | ⟨v,hv,hk⟩
 ·exact h.pr.lt k hk
 ·exact h.us.lt k hk
 ·exact h.gp.1.lt k hk
 ·obtain ⟨i,hi⟩:=List.mem_iff_getElem?.1 hv;have hil:=(List.getElem?_eq_some_iff.1 hi).1;have hl:=h.gp.1.1;obtain ⟨v',h1,h2,-⟩:=h.gp.2.2 i s.pl.grp[i] (List.getElem?_eq_getElem (by omega));rw [hi] at h1;obtain rfl:=Option.some.inj h1;exact h2.lt k hk
theorem Za8.no_row {S0 bw:Nat} {s:PlR} {W:World} (h:Za8 S0 bw s W) {k:Nat} {t:TypeId} {cs:Array Value} (hb:Blk W k t cs) (h1:t≠3) (h2:t≠81) (h3:t≠32):¬ ZcE s k:=by
 rintro (hk | hk | hk | ⟨v,hv,hk⟩)
 ·obtain ⟨c,hc⟩:=ZN h.pr hk;exact Blk.ne_ hb hc h1 rfl
 ·obtain ⟨c,hc⟩:=ZN h.us hk;exact Blk.ne_ hb hc h2 rfl
 ·obtain ⟨c,hc⟩:=ZN h.gp.1 hk;exact Blk.ne_ hb hc h3 rfl
 ·obtain ⟨i,hi⟩:=List.mem_iff_getElem?.1 hv;have hil:=(List.getElem?_eq_some_iff.1 hi).1;have hl:=h.gp.1.1;obtain ⟨v',q1,q2,-⟩:=h.gp.2.2 i s.pl.grp[i] (List.getElem?_eq_getElem (by omega));rw [hi] at q1;obtain rfl:=Option.some.inj q1;obtain ⟨c,hc⟩:=ZN q2 hk;exact Blk.ne_ hb hc h1 rfl
theorem Zcm.below {S0 bw:Nat} {s s':PlR} {W W':World} (h:Zcm bw s W s' W') (hp:Za8 S0 bw s W):Below S0 W W' :=
 ⟨h.bel.os,h.bel.tape,h.bel.output,h.bel.size,fun k hk=>h.bel.block k (Nat.lt_of_lt_of_le hk hp.hi) fun hx=>by
  rcases hx with hx | hx
  ·have:=hp.lo; omega
  ·have:=(hp.row_lt hx).1; omega⟩
theorem Zcm.blk {bw:Nat} {s s':PlR} {W W':World} (h:Zcm bw s W s' W') {k:Nat} {t:TypeId} {cs:Array Value} (hb:Blk W k t cs) (h1:k≠bw) (h2:¬ ZcE s k):Blk W' k t cs:=(h.bel.block k hb.lt fun hx=>hx.elim h1 h2).trans hb
theorem Za8.call {S0 bw:Nat} {s:PlR} {W W':World} (h:Za8 S0 bw s W) (hk:Below W.heap.size W W'):Za8 S0 bw s W' :=
 ⟨h.lo,Nat.le_trans h.hi hk.size,h.blk.call hk,h.pr.below hk,h.us.below hk,h.gp.same (fun k hv=>hk.block k (h.gp.1.lt k hv).2) fun v k n xs ho hv hne=>⟨hk.block k (ho.lt k hv).2,hne⟩⟩
theorem Za8.step {S0 bw:Nat} {s:PlR} {W w':World} (h:Za8 S0 bw s W) {v:Value} (hv:∀ k,v.ownBlock=some k→ZcE s k) (hg:W.grownBy w' v.ownBlock) (j:Nat) (u:Value):Zl W.heap.size (fun k=>k=bw∨ZcE s k) W (w'.setCell ⟨bw,j,none⟩ u):=by
 refine ⟨hg.os,hg.tape,hg.output,by simpa using hg.size,fun k hk hn=>?_⟩;rw [Below.heap_setCell w' _ u k fun e=>hn (.inl e)];exact hg.block k hk fun e=>hn (.inr (hv k e.symm))
theorem Za8.addUse {S0 bw:Nat} {s:PlR} {W w':World} (h:Za8 S0 bw s W) {u:KP×Nat} {n:Nat} (hn:s.pl.uses.length=n) {v':Value} (ho:w'.ownsRow S0 81 9 v' (n+1) (Zh5 s.pl.uses++Zod u)) (hg:W.grownBy w' s.vu.ownBlock) (hat:v'.ownBlock=s.vu.ownBlock∨v'.ownBlock=some W.heap.size) :
  Za8 S0 bw ⟨{ s.pl with uses:=s.pl.uses++[u] },s.vp,v',s.vg,s.vs⟩ (w'.setCell ⟨bw,1,none⟩ v')∧Zcm bw s W ⟨{ s.pl with uses:=s.pl.uses++[u] },s.vp,v',s.vg,s.vs⟩ (w'.setCell ⟨bw,1,none⟩ v'):=by
 subst hn;have hne:some bw≠s.vu.ownBlock:=fun e=>Zg h.us h.blk (by decide) e.symm;have hb':=h.blk.grown hg hne;have hfar:∀ k,k≠bw→(w'.setCell ⟨bw,1,none⟩ v').heap[k]? = w'.heap[k]?:=fun k hk=>Below.heap_setCell w' _ v' k hk;have hbk:∀ k,k < W.heap.size→k≠bw→s.vu.ownBlock≠some k→(w'.setCell ⟨bw,1,none⟩ v').heap[k]? = W.heap[k]?:=fun k hk hkb hkv=>(hfar k hkb).trans (hg.block k hk (fun e=>hkv e.symm))
 have hown:∀ {base e size n:Nat} {v:Value} {xs:List Value},W.ownsRow base e size v n xs→e≠81→e≠79→∀ k,v.ownBlock=some k→(w'.setCell ⟨bw,1,none⟩ v').heap[k]? = W.heap[k]?:=fun hv he1 he2 k hk =>
  hbk k (hv.lt k hk).2 (fun e=>Zg hv h.blk he2 (e ▸ hk)) (fun e=>Zc8 hv h.us he1 hk e)
 refine ⟨⟨h.lo,Nat.le_trans h.hi (by simpa using hg.size),by simpa using hb'.set_ 1 v',Zp h.pr (hown h.pr (by decide) (by decide)),?_,?_⟩,h.step (fun k hk=>.inr (.inl hk)) hg 1 v',fun k hk=>?_⟩
 ·have hr:∀ k,v'.ownBlock=some k→k≠bw:=fun k hk e=>Zg ho hb' (by decide) (e ▸ hk);have:=Zp (w':=w'.setCell ⟨bw,1,none⟩ v') ho fun k hk=>hfar k (hr k hk)
  simpa [Zh5] using this
 ·exact h.gp.same (fun k hv=>hown h.gp.1 (by decide) (by decide) k hv) fun v k n xs ho hv hne=>⟨hown ho (by decide) (by decide) k hv,hne⟩
 ·rcases hk with hk | hk | hk | hk
  ·exact .inl (.inl hk)
  ·rcases hat with e | e
   ·exact .inl (.inr (.inl (e ▸ hk)))
   ·have hk:v'.ownBlock=some k:=hk
    rw [e] at hk; injection hk with hk; exact .inr (by omega)
  ·exact .inl (.inr (.inr (.inl hk)))
  ·exact .inl (.inr (.inr (.inr hk)))
theorem Za8.addPar {S0 bw:Nat} {s:PlR} {W w':World} (h:Za8 S0 bw s W) {x:Int} {n:Nat} (hn:s.pl.par.length=n) {v':Value} (ho:w'.ownsRow S0 3 1 v' (n+1) (ZO s.pl.par++[.int .i64 x])) (hg:W.grownBy w' s.vp.ownBlock) (hat:v'.ownBlock=s.vp.ownBlock∨v'.ownBlock=some W.heap.size) :
  Za8 S0 bw ⟨{ s.pl with par:=s.pl.par++[x] },v',s.vu,s.vg,s.vs⟩ (w'.setCell ⟨bw,0,none⟩ v')∧Zcm bw s W ⟨{ s.pl with par:=s.pl.par++[x] },v',s.vu,s.vg,s.vs⟩ (w'.setCell ⟨bw,0,none⟩ v'):=by
 subst hn;have hne:some bw≠s.vp.ownBlock:=fun e=>Zg h.pr h.blk (by decide) e.symm;have hb':=h.blk.grown hg hne;have hfar:∀ k,k≠bw→(w'.setCell ⟨bw,0,none⟩ v').heap[k]? = w'.heap[k]?:=fun k hk=>Below.heap_setCell w' _ v' k hk;have hbk:∀ k,k < W.heap.size→k≠bw→s.vp.ownBlock≠some k→(w'.setCell ⟨bw,0,none⟩ v').heap[k]? = W.heap[k]?:=fun k hk hkb hkv=>(hfar k hkb).trans (hg.block k hk (fun e=>hkv e.symm))
 have hown:∀ {base e size n:Nat} {v:Value} {xs:List Value},W.ownsRow base e size v n xs→e≠3→e≠79→∀ k,v.ownBlock=some k→(w'.setCell ⟨bw,0,none⟩ v').heap[k]? = W.heap[k]?:=fun hv he1 he2 k hk =>
  hbk k (hv.lt k hk).2 (fun e=>Zg hv h.blk he2 (e ▸ hk)) (fun e=>Zc8 hv h.pr he1 hk e)
 refine ⟨⟨h.lo,Nat.le_trans h.hi (by simpa using hg.size),by simpa using hb'.set_ 0 v',?_,Zp h.us (hown h.us (by decide) (by decide)),?_⟩,h.step (fun k hk=>.inl hk) hg 0 v',fun k hk=>?_⟩
 ·have hr:∀ k,v'.ownBlock=some k→k≠bw:=fun k hk e=>Zg ho hb' (by decide) (e ▸ hk);have:=Zp (w':=w'.setCell ⟨bw,0,none⟩ v') ho fun k hk=>hfar k (hr k hk)
  simpa [ZO] using this
 ·refine h.gp.same (fun k hv=>hown h.gp.1 (by decide) (by decide) k hv) fun v k n xs ho' hv hne=>⟨hbk k (ho'.lt k hv).2 (fun e=>Zg ho' h.blk (by decide) (e ▸ hv)) hne,fun e=>?_⟩
  rcases hat with e2 | e2
  ·exact hne (e2 ▸ e)
  ·rw [e2] at e; injection e with e; have:=(ho'.lt k hv).2; omega
 ·rcases hk with hk | hk | hk | hk
  ·rcases hat with e | e
   ·exact .inl (.inl (e ▸ hk))
   ·have hk:v'.ownBlock=some k:=hk
    rw [e] at hk; injection hk with hk; exact .inr (by omega)
  ·exact .inl (.inr (.inl hk))
  ·exact .inl (.inr (.inr (.inl hk)))
  ·exact .inl (.inr (.inr (.inr hk)))
structure WkS (S0 bw:Nat) (s0:PlR) (W:World) (cs:Array Value) (s:PlR) (wr:World):Prop where
 pa:Za8 S0 bw s wr
 kp:Zcm bw s0 W s wr
 pb:Blk wr W.heap.size 31 cs
 lt:bw < W.heap.size
def GrR (W:World) (vl:Value) (ch:List Nat) (s:PlR) (wr:World):Prop:=wr.ownsRow W.heap.size 3 1 vl ch.length (ZbS ch)∧∀ k,vl.ownBlock=some k→¬ ZcE s k
section
variable {S0 bw f:Nat} {s0 s s':PlR} {W wr w':World} {cs:Array Value} {vl:Value} {ch:List Nat}
theorem WkS.start (p:KP) (hp:Za8 S0 bw s W):WkS S0 bw s W p.cells s (W.alloc (.cells p.cells 31)):=by
 have hb:Below W.heap.size W (W.alloc (.cells p.cells 31)):=(Below.refl _ _).alloc (Nat.le_refl _) _;exact ⟨hp.call hb,Zcm.of_below hb,Blk.new _ _ _,hp.blk.lt⟩
theorem WkS.size (h:WkS S0 bw s0 W cs s wr):W.heap.size < wr.heap.size:=h.pb.lt
theorem WkS.nr (h:WkS S0 bw s0 W cs s wr):¬ ZcE s W.heap.size:=h.pa.no_row h.pb (by decide) (by decide) (by decide)
theorem WkS.call (h:WkS S0 bw s0 W cs s wr) (hb:Below wr.heap.size wr w'):WkS S0 bw s0 W cs s w':=⟨h.pa.call hb,h.kp.trans (Zcm.of_below hb),h.pb.call hb,h.lt⟩
theorem WkS.more (h:WkS S0 bw s0 W cs s wr) (hp:Za8 S0 bw s' w') (hk:Zcm bw s wr s' w'):WkS S0 bw s0 W cs s' w' :=
 ⟨hp,h.kp.trans hk,hk.blk h.pb (by have:=h.lt; omega) h.nr,h.lt⟩
theorem GrR.nil (W:World) (s:PlR) (wr:World):GrR W (.slice none 0 0) [] s wr:=⟨wr.ownsRow_nil _ _ _,fun k hk=>by cases hk⟩
theorem GrR.more (h:GrR W vl ch s wr) (hlt:bw < W.heap.size) (hk:Zcm bw s wr s' w'):GrR W vl ch s' w' :=
 ⟨Zp h.1 fun k hv=>hk.bel.block k (h.1.lt k hv).2 fun hx=>hx.elim (fun e=>by have:=(h.1.lt k hv).1; omega) (h.2 k hv),fun k hv=>hk.stay (h.1.lt k hv).2 (h.2 k hv)⟩
theorem GrR.call (h:GrR W vl ch s wr) (hb:Below wr.heap.size wr w'):GrR W vl ch s w':=⟨h.1.below hb,h.2⟩
theorem GrR.grow (hv:WkS S0 bw s0 W cs s wr) (h:GrR W vl ch s wr) {vl':Value} {c n:Nat} (hn:ch.length=n) (ho:w'.ownsRow W.heap.size 3 1 vl' (n+1) (ZbS ch++[.int .i64 c])) (hg:wr.grownBy w' vl.ownBlock) (hat:vl'.ownBlock=vl.ownBlock∨vl'.ownBlock=some wr.heap.size) :
  WkS S0 bw s0 W cs s w'∧GrR W vl' (ch++[c]) s w':=by
 subst hn;have hne:∀ k,ZcE s k→some k≠vl.ownBlock:=fun k hk e=>h.2 k e.symm hk;have hrow:∀ {base e size n:Nat} {v:Value} {xs:List Value},wr.ownsRow base e size v n xs→(∀ k,v.ownBlock=some k→ZcE s k)→w'.ownsRow base e size v n xs:=fun hv hr=>Zp hv fun k hk=>hg.block k (hv.lt k hk).2 (hne k (hr k hk))
 have hp:Za8 S0 bw s w':=by
  refine ⟨hv.pa.lo,Nat.le_trans hv.pa.hi hg.size,hv.pa.blk.grown hg fun e=>Zg h.1 hv.pa.blk (by decide) e.symm,hrow hv.pa.pr fun k hk=>.inl hk,hrow hv.pa.us fun k hk=>.inr (.inl hk),⟨hrow hv.pa.gp.1 fun k hk=>.inr (.inr (.inl hk)),hv.pa.gp.2.1,fun i g hgi=>?_⟩⟩;obtain ⟨v,q1,q2,q3⟩:=hv.pa.gp.2.2 i g hgi;exact ⟨v,q1,hrow q2 fun k hk=>.inr (.inr (.inr ⟨v,List.mem_of_getElem? q1,hk⟩)),q3⟩
 refine ⟨⟨hp,⟨⟨hg.os.trans hv.kp.bel.os,hg.tape.trans hv.kp.bel.tape,hg.output.trans hv.kp.bel.output,Nat.le_trans hv.kp.bel.size hg.size,fun k hk hn=>?_⟩,hv.kp.rows⟩,hv.pb.grown hg fun e=>Zg h.1 hv.pb (by decide) e.symm,hv.lt⟩,?_,fun k hk=>?_⟩
 ·refine (hg.block k (Nat.lt_of_lt_of_le hk hv.kp.bel.size) fun e=>?_).trans (hv.kp.bel.block k hk hn);have:=(h.1.lt k e.symm).1
  omega
 ·rw [List.length_append,List.length_singleton]
  simpa [ZbS,Zmc] using ho
 ·rcases hat with e | e
  ·exact h.2 k (e ▸ hk)
  ·rw [e] at hk
   injection hk with hk
   intro hr;have:=(hv.pa.row_lt hr).2
   omega
theorem WkS.group (h:WkS S0 bw s0 W cs s wr) (hS:S0≤W.heap.size) (hl:GrR W vl ch s wr) (hone:vl.oneCell'=true) {vg':Value} (ho:w'.ownsRow S0 32 1 vg' (s.pl.grp.length+1) (s.vs++[vl])) (hg:wr.grownBy w' s.vg.ownBlock) (hat:vg'.ownBlock=s.vg.ownBlock∨vg'.ownBlock=some wr.heap.size) :
  WkS S0 bw s0 W cs ⟨{ s.pl with grp:=s.pl.grp++[ch],out:=s.pl.out++[f] },s.vp,s.vu,vg',s.vs++[vl]⟩ (w'.setCell ⟨bw,2,none⟩ vg'):=by
 have hne:some bw≠s.vg.ownBlock:=fun e=>Zg h.pa.gp.1 h.pa.blk (by decide) e.symm;have hb':=h.pa.blk.grown hg hne;have hfar:∀ k,k≠bw→(w'.setCell ⟨bw,2,none⟩ vg').heap[k]? = w'.heap[k]?:=fun k hk=>Below.heap_setCell w' _ vg' k hk;have hbk:∀ k,k < wr.heap.size→k≠bw→s.vg.ownBlock≠some k→(w'.setCell ⟨bw,2,none⟩ vg').heap[k]? = wr.heap[k]?:=fun k hk hkb hkv=>(hfar k hkb).trans (hg.block k hk (fun e=>hkv e.symm))
 have hown:∀ {base e size n:Nat} {v:Value} {xs:List Value},wr.ownsRow base e size v n xs→e≠32→e≠79→∀ k,v.ownBlock=some k→(w'.setCell ⟨bw,2,none⟩ vg').heap[k]? = wr.heap[k]?:=fun hv he1 he2 k hk =>
  hbk k (hv.lt k hk).2 (fun e=>Zg hv h.pa.blk he2 (e ▸ hk)) (fun e=>Zc8 hv h.pa.gp.1 he1 hk e)
 have hlen:s.vs.length=s.pl.grp.length:=by have:=h.pa.gp.1.1; omega
 have hbel:=h.pa.step (v:=s.vg) (fun k hk=>.inr (.inr (.inl hk))) hg 2 vg';refine ⟨⟨h.pa.lo,Nat.le_trans h.pa.hi (by simpa using hg.size),by simpa using hb'.set_ 2 vg',Zp h.pa.pr (hown h.pa.pr (by decide) (by decide)),Zp h.pa.us (hown h.pa.us (by decide) (by decide)),⟨?_,fun v hv=>?_,fun i g hgi=>?_⟩⟩,⟨⟨hbel.os.trans h.kp.bel.os,hbel.tape.trans h.kp.bel.tape,hbel.output.trans h.kp.bel.output,Nat.le_trans h.kp.bel.size hbel.size,fun k hk hn=>?_⟩,fun k hk=>?_⟩,?_,h.lt⟩
 ·simp only [List.length_append,List.length_singleton];exact Zp ho fun k hk=>hfar k fun e=>Zg ho hb' (by decide) (e ▸ hk)
 ·rcases List.mem_append.1 hv with hv | hv
  ·exact h.pa.gp.2.1 v hv
  ·simp at hv; subst hv; exact hone
 ·by_cases hi:i < s.pl.grp.length
  ·simp only [List.getElem?_append_left hi] at hgi;obtain ⟨v,q1,q2,q3⟩:=h.pa.gp.2.2 i g hgi;exact ⟨v,by rw [List.getElem?_append_left (by omega)]; exact q1,Zp q2 (hown q2 (by decide) (by decide)),q3⟩
  ·simp only [List.getElem?_append_right (Nat.le_of_not_lt hi)] at hgi
   have h0:i - s.pl.grp.length=0:=by have:=(List.getElem?_eq_some_iff.1 hgi).1; simp at this; omega
   rw [h0] at hgi;simp at hgi;subst hgi;refine ⟨vl,by rw [List.getElem?_append_right (by omega),show i - s.vs.length=0 by omega]; rfl,Zp ⟨hl.1.1,?_⟩ (hown hl.1 (by decide) (by decide)),fun k hk e=>hl.2 k hk (.inl e)⟩
   rcases hl.1.2 with q | ⟨b,cap,cur,e,q1,q2⟩
   ·exact .inl q
   ·exact .inr ⟨b,cap,cur,e,Nat.le_trans hS q1,q2⟩
 ·refine (hbel.block k (Nat.lt_of_lt_of_le hk h.kp.bel.size) fun hx=>?_).trans (h.kp.bel.block k hk hn)
  rcases hx with hx | hx
  ·exact hn (.inl hx)
  ·rcases h.kp.rows k hx with h1 | h1
   ·exact hn (.inr h1)
   ·omega
 ·rcases hk with hk | hk | hk | ⟨v,hv,hk⟩
  ·exact h.kp.rows k (.inl hk)
  ·exact h.kp.rows k (.inr (.inl hk))
  ·rcases hat with e | e
   ·exact h.kp.rows k (.inr (.inr (.inl (e ▸ hk))))
   ·have hk:vg'.ownBlock=some k:=hk
    rw [e] at hk; injection hk with hk; have:=h.size; exact .inr (by omega)
  ·rcases List.mem_append.1 hv with hv | hv
   ·exact h.kp.rows k (.inr (.inr (.inr ⟨v,hv,hk⟩)))
   ·simp at hv; subst hv; exact .inr (hl.1.lt k hk).1
 ·exact (hbk _ h.size (by have:=h.lt; omega) fun e=>Zg h.pa.gp.1 h.pb (by decide) e).trans h.pb
end
def Zqy (S0 bw:Nat) (s:PlR) (pl':Zr) (W:World) (e:Ending) (W':World):Prop:=(∃ v,e = .returned v)∧∃ s',s'.pl=pl'∧Za8 S0 bw s' W'∧Zcm bw s W s' W'
def Zjr (FP:Zr):Prop:=FP.par.length≤1000000∧FP.uses.length≤1000000∧FP.grp.length≤1000000
def ZhW (p:KP):Prop:=∀ (f B S0 bw:Nat) (FP:Zr) (s:PlR) (W:World),p.In W B→B≤S0→Zjr FP→Zak s.pl→f < s.pl.par.length→Ext (Z7 f p s.pl) FP→Za8 S0 bw s W →
 Calls Tryz.prog 50 #[.pointer (some ⟨bw,0,none⟩),.agg p.cells,.int .i64 f] W (Zqy S0 bw s (Z7 f p s.pl) W)
def ZhY (p:KP):Prop:=Zdn p∧(ZeX p=true→p.g=[])
theorem Ziy {vs:List ZZ} {nc:Nat} {p:KP} (h:ZW vs nc p=true):ZhY p:=by
 refine ⟨Zd0 h,fun hp=>?_⟩;unfold ZeX at hp;simp only [Bool.or_eq_true,beq_iff_eq] at hp;unfold ZW Za3 at h
 rcases hp with hk | hk <;> rw [hk] at h <;> simp only [Bool.and_eq_true,decide_eq_true_eq] at h <;> exact List.length_eq_zero_iff.1 (by omega)
def ZnG (S0 bw:Nat) (s0:PlR) (W:World) (cs:Array Value) (s:PlR) (pl':Zr) (w1:World) (e:Ending) (w':World):Prop :=
 (∃ v,e = .returned v)∧∃ s',Hid (s'.pl=pl')∧Hid (WkS S0 bw s0 W cs s' w')∧Hid (Zcm bw s w1 s' w')
theorem WkS.walk {S0 bw B fr:Nat} {s0 s:PlR} {W w1:World} {cs:Array Value} {x:KP} {FP:Zr} (hx:ZhW x) (hin:x.In w1 B) (hB:B≤S0) (hF:Zjr FP) (ht:Zak s.pl) (hf:fr < s.pl.par.length) (he:Ext (Z7 fr x s.pl) FP) (h:WkS S0 bw s0 W cs s w1) :
  Calls Tryz.prog 50 #[.pointer (some ⟨bw,0,none⟩),.agg x.cells,.int .i64 fr] w1 (ZnG S0 bw s0 W cs s (Z7 fr x s.pl) w1):=by
 refine (hx fr B S0 bw FP s w1 hin hB hF ht hf he h.pa).mono ?_;rintro e w2 ⟨hv,s',h1,h3,h4⟩;exact ⟨hv,s',Lh h1,Lh (h.more h3 h4),Lh h4⟩
end
def ZcM (vin:List Int) (sz:List Nat) (start:Int→Nat) (f:Int) (v:Nat):List Int:=tb vin.length fun k=>if (0≤vin.getD k (-1)∧vin.getD k (-1) < f)∨(vin.getD k (-1)=f∧k < v) then ((start (vin.getD k (-1))+ZaN vin sz (vin.getD k (-1)) k:Nat):Int) else -1
theorem ZiF (vin:List Int) (sz:List Nat) (start:Int→Nat) (f:Int) (v:Nat):(ZcM vin sz start f v).length=vin.length:=Zch _ _
theorem Zhe (vin:List Int) (sz:List Nat) (start:Int→Nat):List.replicate vin.length (-1)=ZcM vin sz start 0 0:=by
 rw [Zhk];refine ZK fun k _=>?_;rw [if_neg]
 omega
theorem Zhg (vin:List Int) (sz:List Nat) (start:Int→Nat) {f:Int} (hf:0≤f):ZcM vin sz start f vin.length=ZcM vin sz start (f+1) 0:=by
 refine ZK fun k hk=>?_
 have:((0≤vin.getD k (-1)∧vin.getD k (-1) < f)∨(vin.getD k (-1)=f∧k < vin.length)) ↔ ((0≤vin.getD k (-1)∧vin.getD k (-1) < f+1)∨(vin.getD k (-1)=f+1∧k < 0)):=by omega
 by_cases h:(0≤vin.getD k (-1)∧vin.getD k (-1) < f)∨(vin.getD k (-1)=f∧k < vin.length)
 ·rw [if_pos h,if_pos (this.1 h)]
 ·rw [if_neg h,if_neg (fun x=>h (this.2 x))]
theorem ZiE {vin:List Int} {sz:List Nat} {start:Int→Nat} {f:Int} {v:Nat} (h:vin.getD v (-1)=f) (hf:0≤f):(ZcM vin sz start f v).set v ((start f+ZaN vin sz f v:Nat):Int)=ZcM vin sz start f (v+1):=by
 unfold ZcM;rw [Zd7];refine ZK fun k hk=>?_
 by_cases hkv:k=v
 ·subst hkv; rw [if_pos rfl,if_pos (.inr ⟨h,by omega⟩),h]
 ·rw [if_neg hkv]
  have:((0≤vin.getD k (-1)∧vin.getD k (-1) < f)∨(vin.getD k (-1)=f∧k < v)) ↔ ((0≤vin.getD k (-1)∧vin.getD k (-1) < f)∨(vin.getD k (-1)=f∧k < v+1)):=by omega
  by_cases hc:(0≤vin.getD k (-1)∧vin.getD k (-1) < f)∨(vin.getD k (-1)=f∧k < v)
  ·rw [if_pos hc,if_pos (this.1 hc)]
  ·rw [if_neg hc,if_neg (fun x=>hc (this.2 x))]
theorem Zhf {vin:List Int} {sz:List Nat} {start:Int→Nat} {f:Int} {v:Nat} (h:vin.getD v (-1)≠f):ZcM vin sz start f v=ZcM vin sz start f (v+1):=by
 refine ZK fun k hk=>?_
 have:((0≤vin.getD k (-1)∧vin.getD k (-1) < f)∨(vin.getD k (-1)=f∧k < v)) ↔ ((0≤vin.getD k (-1)∧vin.getD k (-1) < f)∨(vin.getD k (-1)=f∧k < v+1)):=by
  by_cases hkv:k=v
  ·subst hkv; omega
  ·omega
 by_cases hc:(0≤vin.getD k (-1)∧vin.getD k (-1) < f)∨(vin.getD k (-1)=f∧k < v)
 ·rw [if_pos hc,if_pos (this.1 hc)]
 ·rw [if_neg hc,if_neg (fun x=>hc (this.2 x))]
theorem ZiG {vin:List Int} (sz:List Nat) (start:Int→Nat) {n:Nat} (h:InR n vin):ZcM vin sz start n 0=Zbq start vin sz:=by
 refine ZK fun k hk=>?_;have:=h.getD k
 by_cases h0:vin.getD k (-1) < 0
 ·rw [if_pos h0,if_neg (by omega)]
 ·rw [if_neg h0,if_pos (by omega)]
theorem Zkw {ins:List Int} {sz:List Nat} {f:Int} {i:Nat} (h:ins.getD i (-1)=f):ZaN ins sz f (i+1)=ZaN ins sz f i+sz.getD i 0:=by rw [ZaN,if_pos h]
theorem ZiO {ins:List Int} {sz:List Nat} {f:Int} {i:Nat} (h:ins.getD i (-1)≠f):ZaN ins sz f (i+1)=ZaN ins sz f i:=by rw [ZaN,if_neg h,Nat.add_zero]
def ZoW (par:List Int) (nx tp:Nat→Nat) (j:Nat):List FrL:=tb j fun f=>⟨par.getD f (-1),0,((nx f+tp f:Nat):Int),5,(nx f:Nat)⟩
theorem ZlG (par:List Int) (nx tp:Nat→Nat):ZoW par nx tp par.length=frJ par nx tp par.length:=ZK fun f hf=>by rw [if_pos hf]
theorem Zqr {w:World} {B:Nat} (p:KP):p.In w B→p.all (fun x=>x.In w B):=by
 induction p using KP.ind with
 | h p ih1 ih2 =>
   intro h;rw [KP.all_iff];exact ⟨h,fun g hg x hx=>ih1 g hg x hx (h.guard hg hx),fun x hx=>ih2 x hx (h.part hx)⟩
theorem Zh4 {w:World} {B:Nat} {p:KP} (h:p.In w B):∀ u∈(Zd p).uses,u.1.In w B:=ZaS (Zqr p h)
theorem ZgM {vs:List ZZ} {nc:Nat} {p:KP} (h:ZW vs nc p=true):(ZL p).length≤48:=by
 have h1:=(ZdR h).2.2;have hp:=ZcK h
 have hs:(ZL p).length=(ZbM p).length:=by
  have:=ZgL (fun _=>0) hp
  have e:∀ l:List KE,Zc2 (fun _=>0) l=l.length:=fun l=>by induction l with
   | nil=>rfl
   | cons x l ih=>simp [Zc2] at ih ⊢; omega
  rwa [e,e] at this
 omega
theorem ZhT {p:KP} {w:World} {B:Nat} (h:p.In w B):∀ e∈ZL p,e.In w B:=by
 intro e he;unfold ZL at he;rw [List.mem_append,List.mem_append] at he;have ho:=h.one
 rcases he with (he | he) | he
 ·exact ho.2.2.1.2.2 e he
 ·obtain ⟨t,ht,he⟩:=List.mem_flatMap.1 he;exact (ho.2.1.2.2 t ht).2.2.2 e he
 ·obtain ⟨g,hg,he⟩:=List.mem_flatMap.1 he;have hg:=ho.2.2.2.1.2 g hg;unfold Zaz at he;rw [List.mem_append,List.mem_append] at he
  rcases he with (he | he) | he
  ·simp at he; subst he; exact hg.2.1
  ·exact hg.2.2.1.2.2.2 e he
  ·split at he
   ·simp at he; subst he; exact hg.2.2.2.1
   ·cases he
theorem Zex {p:KP} (h:Ze2 p):1+Zc2 Zf (ZL p)=Zal Zf p:=by rw [ZgL Zf h,Zey]
theorem Zkv {l:List KE} {j:Nat} {e:KE} (h:l[j]? = some e):Zc2 Zf (l.take (j+1))=Zc2 Zf (l.take j)+1+Zf e:=by
 rw [ZM h,Zah]
 simp [Zc2]
 omega
theorem Zjy {us:List (KP×Nat)} {i:Nat} {u:KP×Nat} (h:us[i]? = some u) (f:Nat):ZJ Zf (us.take (i+1)) f=if u.2=f then max (ZJ Zf (us.take i) f) (Zal Zf u.1) else ZJ Zf (us.take i) f:=by rw [ZM h,Zgo]
theorem ZiL {w:World} {B:Nat} {A:Option Addr} {us:List (KP×Nat)} (h:Zo w B 9 A us.length (Zh5 us)) {k:Nat} (hk:k < us.length) :
  ∃ b off u,A=some ⟨b,off,none⟩∧b < B∧us[k]? = some u∧u∈us∧w.cell? ⟨b,off+k * 9,none⟩=some (.int .u8 u.1.kind)∧w.cell? ⟨b,off+k * 9+1,none⟩=some (.int .i64 u.1.c)∧w.cell? ⟨b,off+k * 9+2,none⟩=some (.int .i64 u.1.v)∧w.cell? ⟨b,off+k * 9+3,none⟩=some (.int .u8 u.1.item)∧w.cell? ⟨b,off+k * 9+4,none⟩=some (.slice u.1.At u.1.tos.length u.1.ct)∧w.cell? ⟨b,off+k * 9+5,none⟩=some (.slice u.1.Ae u.1.e.length u.1.ce)∧w.cell? ⟨b,off+k * 9+6,none⟩=some (.slice u.1.Ag u.1.g.length u.1.cg)∧w.cell? ⟨b,off+k * 9+7,none⟩=some (.slice u.1.Al u.1.l.length u.1.cl)∧w.cell? ⟨b,off+k * 9+8,none⟩=some (.int .i64 u.2):=by
 obtain ⟨b,off,rfl,hb,hc⟩:=h.addr (by omega) (by omega);have hu:us[k]? = some us[k]:=List.getElem?_eq_getElem hk;have key:∀ i v,i < 9→(Zod us[k])[i]? = some v→w.cell? ⟨b,off+(k * 9+i),none⟩=some v:=fun i v hi hv=>hc _ _ ((ZdZ (f:=Zod) (fun u=>by simp [Zod,KP.cells]) hu i hi).trans hv);simp only [Nat.add_assoc];exact ⟨b,off,us[k],rfl,hb,hu,List.getElem_mem _,key 0 _ (by decide) rfl,key 1 _ (by decide) rfl,key 2 _ (by decide) rfl,key 3 _ (by decide) rfl,key 4 _ (by decide) rfl,key 5 _ (by decide) rfl,key 6 _ (by decide) rfl,key 7 _ (by decide) rfl,key 8 _ (by decide) rfl⟩
theorem Zlm {w:World} {B n:Nat} {A:Option Addr} {l:List KE} (h:Zo w B 6 A n (ZgE l)) (hn:l.length=n) {k:Nat} (hk:k < n) :
  ∃ b off x,A=some ⟨b,off,none⟩∧b < B∧l[k]? = some x∧x∈l∧w.cell? ⟨b,off+k * 6,none⟩=some (.int .u8 x.kind)∧w.cell? ⟨b,off+k * 6+1,none⟩=some (.int .u8 x.oper)∧w.cell? ⟨b,off+k * 6+2,none⟩=some (.int .u8 x.tk)∧w.cell? ⟨b,off+k * 6+3,none⟩=some (.int .i32 x.n)∧w.cell? ⟨b,off+k * 6+4,none⟩=some (.int .i64 x.v)∧w.cell? ⟨b,off+k * 6+5,none⟩=some (.slice x.A x.l.length x.c):=by
 subst hn;obtain ⟨b,off,x,h1,h2,h3,h4,hc⟩:=Zeb KE.cells_len (by decide) h hk;exact ⟨b,off,x,h1,h2,h3,h4,hc 0 _ rfl,hc 1 _ rfl,hc 2 _ rfl,hc 3 _ rfl,hc 4 _ rfl,hc 5 _ rfl⟩
theorem Zmu (p:KP) (v:Int) (B:Nat) (w:World) (hv:Zy v) (hin:p.In w B) (hB:B≤w.heap.size) (hsm:(ZL p).length≤1000000):Calls Tryz.prog 25 #[.agg p.cells,.int .i64 v] w (Zu (.bool (ZiJ p v)) w):=by
 obtain ⟨W0,hW0⟩:∃ W0,w.alloc (.cells p.cells 31)=W0:=⟨_,rfl⟩
 have K0:Hid (Below w.heap.size w W0):=Lh (by rw [← hW0]; exact (Below.refl _ _).alloc (Nat.le_refl _) _);have HB0:Hid (Blk W0 w.heap.size 31 p.cells):=Lh (by rw [← hW0]; exact Blk.new _ _ _);have HIN:Hid (p.In W0 B):=Lh (hin.below (K0.out.mono hB));have HE:Hid (∀ W,Below w.heap.size w W→Calls Tryz.prog 51 #[.agg p.cells] W (Zpc p W)):=Lh fun W h=>ZnP p B W (hin.below (h.mono hB)) (Nat.le_trans hB h.size) hsm;have HI:Hid (∀ (e:KE),e∈ZL p→∀ W,Below w.heap.size w W→Calls Tryz.prog 52 #[.agg e.cells,.int .i64 v] W (Zu (.bool ((ZaQ e).contains v)) W)):=Lh fun e he W h=>rIn24 e v B W hv (ZhT (hin.below (h.mono hB)) e he) (Nat.le_trans hB h.size);have hk:=hin.one.1.1;have hlt0:=hin.one.2.1.1;have hlg:=hin.one.1.2.2.2.2.1;unfold ZB at hlt0 hlg
 obtain ⟨nt,hnt⟩:∃ n,p.tos.length=n:=⟨_,rfl⟩
 obtain ⟨ng,hng⟩:∃ n,p.g.length=n:=⟨_,rfl⟩
 have HNT:=Lh hnt;have HNG:=Lh hng
 obtain ⟨PT,hPT⟩:∃ q,p.At=q:=⟨_,rfl⟩
 obtain ⟨PG,hPG⟩:∃ q,p.Ag=q:=⟨_,rfl⟩
 have HPT:=Lh hPT;have HPG:=Lh hPG
 obtain ⟨R,hR⟩:∃ r,ZiJ p v=r:=⟨_,rfl⟩
 have HR:Hid (((((decide (p.kind=3) && decide (p.v=v)) || p.tos.any (fun t=>decide (t.v=v))) || p.g.any (fun g=>decide (g.kind=3) && decide (g.dst.v=v))) || (ZL p).any fun e=>(ZaQ e).contains v)=R):=Lh hR;rw [hR];simp only [KP.cells,hnt,hng,hPT,hPG] at hW0 HB0 HE ⊢;rw [hnt] at hlt0;rw [hng] at hlg;unfold Zy at hv;clear hin hnt hng hPT hPG hR;have b0:=HB0.out;have hlt:=b0.lt;obtain ⟨d0,d1,d2,d3,d4,d5,d6,d7⟩:=b0.c8;simp at d0 d1 d2 d3 d4 d5 d6 d7;clear b0;go_enter Tryz.func25,Tryz.ntmps25
 go_upto_region 1 with fail
 clear hW0
 obtain ⟨q,hq⟩:∃ q,(decide (p.kind=3) && decide (p.v=v))=q:=⟨_,rfl⟩
 have HQ:=Lh hq;clear hq
 go_cut [17] (fun s17 wx=>s17 = .bool q∧wx=W0)
 case first =>
  by_cases h3:p.kind=3
  ·have y3:((p.kind:Int) == 3)=true:=by simp [h3]
   have hq:(p.v == v)=q:=by rw [← HQ.out,ZiA]; simp [h3]
   have HQ2:=Lh hq;clear h3 hq
   go_wp2_with fail
   go_meet;exact ⟨by rw [HQ2.out],rfl⟩
  ·have y3:((p.kind:Int) == 3)=false:=by simp; omega
   have hq:false=q:=by rw [← HQ.out]; simp [h3]
   have HQ2:=Lh hq;clear h3 hq
   go_wp2_with fail
   go_meet;exact ⟨by rw [← HQ2.out],rfl⟩
 case rest =>
  obtain ⟨rfl,rfl⟩:=hcut
  cases q with
  | true =>
    have hR:R=true:=by rw [← HR.out,HQ.out,Bool.true_or,Bool.true_or,Bool.true_or]
    have HRR:=Lh hR;clear hR
    go_wp2_with fail
    go_ret;exact ⟨by rw [HRR.out]; rfl,K0.out⟩
  | false =>
    have HAN:Hid (((p.tos.any (fun t=>decide (t.v=v)) || p.g.any (fun g=>decide (g.kind=3) && decide (g.dst.v=v))) || (ZL p).any fun e=>(ZaQ e).contains v)=R):=Lh (by have:=HR.out; rwa [HQ.out,Bool.false_or] at this)
    obtain ⟨W1,hW1⟩:∃ W1,wc=W1:=⟨_,rfl⟩
    simp only [hW1] at *;clear HR HQ
    go_wp2_with fail
    go_loopw [5] (fun i wr=>∃ j:Nat,j≤nt∧i = .int .i64 j∧wr=W1∧Hid (((p.tos.take j).any fun t=>decide (t.v=v))=false)) (fun i _=>nt - (intOf i).toNat)
    case atStart=>exact ⟨0,Nat.zero_le _,rfl,rfl,Lh (by simp)⟩
    case round =>
     obtain ⟨j,hj,rfl,hwr,HF⟩:=hrel;subst hwr
     by_cases hlt2:j < nt
     ·have hltI:(j:Int) < nt:=by omega
      obtain ⟨b,off,x,hA,hb,hx,hxi,c0,c1⟩:=Zdc HIN.out.one.2.1 rfl (k:=j) (by rw [HNT.out]; exact hlt2);have hbw:b < wr.heap.size:=Nat.lt_of_lt_of_le hb (Nat.le_trans hB K0.out.size);obtain rfl:PT=some ⟨b,off,none⟩:=HPT.out.symm.trans hA;have HX:=Lh hx;have HMX:=Lh (List.mem_of_getElem? hx);clear hx hA hxi
      by_cases hgc:x.v=v
      ·have yc:(x.v == v)=true:=by simp [hgc]
       have hR:R=true:=by
        rw [← HAN.out]
        have:(p.tos.any fun t=>decide (t.v=v))=true:=by rw [List.any_eq_true]; exact ⟨x,HMX.out,by simp [hgc]⟩
        rw [this,Bool.true_or,Bool.true_or]
       have HRR:=Lh hR;clear hR hgc
       go_wp2_with fail
       go_ret;exact ⟨by rw [HRR.out]; rfl,K0.out⟩
      ·have yc:(x.v == v)=false:=by simp [hgc]
       have HF2:Hid (((p.tos.take (j+1)).any fun t=>decide (t.v=v))=false):=Lh (by rw [ZM HX.out,List.any_append,HF.out,List.any_cons]; simp [hgc]);clear hgc
       go_wp2_with fail
       go_roundw
       case rel=>exact ⟨j+1,by omega,by go_num,trivial,HF2⟩
       case measure=>simp [intOf]; omega
     ·have hltI:¬ (j:Int) < nt:=by omega
      obtain rfl:nt=j:=by omega
      have htk:p.tos.take nt=p.tos:=List.take_of_length_le (by rw [HNT.out]; omega);have HAN2:Hid ((p.g.any (fun g=>decide (g.kind=3) && decide (g.dst.v=v)) || (ZL p).any fun e=>(ZaQ e).contains v)=R):=Lh (by rw [← HAN.out,← htk,HF.out,Bool.false_or]);clear htk HAN HF
      obtain ⟨W1,hW1⟩:∃ W1,wr=W1:=⟨_,rfl⟩
      simp only [hW1] at *
      go_wp2_with fail
      go_loopw [6] (fun i wr=>∃ j:Nat,j≤ng∧i = .int .i64 j∧wr=W1∧Hid (((p.g.take j).any fun g=>decide (g.kind=3) && decide (g.dst.v=v))=false)) (fun i _=>ng - (intOf i).toNat)
      case atStart=>exact ⟨0,Nat.zero_le _,rfl,rfl,Lh (by simp)⟩
      case round =>
       obtain ⟨j,hj,rfl,hwr,HF⟩:=hrel;subst hwr
       by_cases hlt3:j < ng
       ·have hltI3:(j:Int) < ng:=by omega
        obtain ⟨b,off,g,hA,hb,hx,hmx,hG⟩:=Zb7 HIN.out.one.2.2.2.1.1 rfl (k:=j) (by rw [HNG.out]; exact hlt3);have hbw:b < wr.heap.size:=Nat.lt_of_lt_of_le hb (Nat.le_trans hB K0.out.size);obtain rfl:PG=some ⟨b,off,none⟩:=HPG.out.symm.trans hA;have c0:=hG.c0;have c9:=hG.c9;have hg8:=(HIN.out.one.2.2.2.1.2 g hmx).1.1;have HX:=Lh hx;have HMX:=Lh hmx;clear hx hmx hA hG
        by_cases h3:g.kind=3
        ·have y3:((g.kind:Int) == 3)=true:=by simp [h3]
         by_cases hgc:g.dst.v=v
         ·have yc:(g.dst.v == v)=true:=by simp [hgc]
          have hR:R=true:=by
           rw [← HAN2.out]
           have:(p.g.any fun g=>decide (g.kind=3) && decide (g.dst.v=v))=true:=by rw [List.any_eq_true]; exact ⟨g,HMX.out,by simp [h3,hgc]⟩
           rw [this,Bool.true_or]
          have HRR:=Lh hR;clear hR h3 hgc
          go_wp2_with fail
          go_ret;exact ⟨by rw [HRR.out]; rfl,K0.out⟩
         ·have yc:(g.dst.v == v)=false:=by simp [hgc]
          have HF2:Hid (((p.g.take (j+1)).any fun g=>decide (g.kind=3) && decide (g.dst.v=v))=false):=Lh (by rw [ZM HX.out,List.any_append,HF.out,List.any_cons]; simp [hgc]);clear h3 hgc
          go_wp2_with fail
          go_roundw
          case rel=>exact ⟨j+1,by omega,by go_num,trivial,HF2⟩
          case measure=>simp [intOf]; omega
        ·have y3:((g.kind:Int) == 3)=false:=by simp; omega
         have HF2:Hid (((p.g.take (j+1)).any fun g=>decide (g.kind=3) && decide (g.dst.v=v))=false):=Lh (by rw [ZM HX.out,List.any_append,HF.out,List.any_cons]; simp [h3]);clear h3
         go_wp2_with fail
         go_roundw
         case rel=>exact ⟨j+1,by omega,by go_num,trivial,HF2⟩
         case measure=>simp [intOf]; omega
       ·have hltI3:¬ (j:Int) < ng:=by omega
        obtain rfl:ng=j:=by omega
        have htk:p.g.take ng=p.g:=List.take_of_length_le (by rw [HNG.out]; omega);have HAN3:Hid (((ZL p).any fun e=>(ZaQ e).contains v)=R):=Lh (by rw [← HAN2.out,← htk,HF.out,Bool.false_or]);clear htk HAN2 HF
        go_upto_region 14 with (go_at_call 51; (with_reducible refine (HE.out _ K0.out).mono ?_); rintro e9 w3 ⟨v3,rfl,HO3,HK3⟩)
        obtain ⟨A3,c3,rfl⟩:=Zv HO3.out;have K3:=Lh (K0.out.trans (HK3.out.mono K0.out.size));have HRD:Hid (Zo w3 w3.heap.size 6 A3 (ZL p).length (ZgE (ZL p))):=Lh (Zo.of_own HO3.out)
        obtain ⟨m,hm⟩:∃ m,(ZL p).length=m:=⟨_,rfl⟩
        have HM:=Lh hm;rw [hm] at hsm HRD ⊢;clear hm HK3 HO3 d0 d1 d2 d3 d4 d5 d6 d7 hlt
        go_wp2_with fail
        go_loopw [8] (fun i wr=>∃ j:Nat,j≤m∧i = .int .i64 j∧Hid (Below w3.heap.size w3 wr)∧Hid (((ZL p).take j).any (fun e=>(ZaQ e).contains v)=false)) (fun i _=>m - (intOf i).toNat)
        case atStart=>exact ⟨0,Nat.zero_le _,rfl,Lh (Below.refl _ _),Lh (by simp)⟩
        case round =>
         obtain ⟨j,hj,rfl,HW,HF⟩:=hrel
         by_cases hlt4:j < m
         ·have hltI4:(j:Int) < m:=by omega
          obtain ⟨b,off,x,hA,hb,hx,hmx,e0,e1,e2,e3,e4,e5⟩:=Zlm (HRD.out.below HW.out) HM.out (k:=j) hlt4;have hbw:b < wr.heap.size:=Nat.lt_of_lt_of_le hb HW.out.size;subst hA
          obtain ⟨r,hr⟩:∃ r,(ZaQ x).contains v=r:=⟨_,rfl⟩
          have HRX:=Lh hr;have HX:=Lh hx;have HMX:=Lh hmx;have hkb:=K3.out.trans (HW.out.mono K3.out.size);have hc:=HI.out x hmx wr hkb;rw [hr] at hc;have HC:=Lh hc;simp only [KE.cells] at HC;clear hc hr hx hmx hkb
          cases r with
          | true =>
            have hR:R=true:=by rw [← HAN3.out,List.any_eq_true]; exact ⟨x,HMX.out,HRX.out⟩
            have HRR:=Lh hR;clear hR
            go_wp2_with (first
             | (go_at_call 52; (with_reducible refine HC.out.mono ?_); rintro e9 w4 ⟨rfl,k4⟩
                have HK4:=Lh k4
                clear k4))
            go_ret;have hx:=K3.out.trans (HW.out.mono K3.out.size);exact ⟨by rw [HRR.out]; rfl,hx.trans (HK4.out.mono hx.size)⟩
          | false =>
            have HF2:Hid (((ZL p).take (j+1)).any (fun e=>(ZaQ e).contains v)=false):=Lh (by rw [ZM HX.out,List.any_append,HF.out,List.any_cons,HRX.out]; rfl)
            go_wp2_with (first
             | (go_at_call 52; (with_reducible refine HC.out.mono ?_); rintro e9 w4 ⟨rfl,k4⟩
                have HK4:=Lh k4
                clear k4))
            go_roundw
            case rel=>exact ⟨j+1,by omega,by go_num,Lh (HW.out.trans (HK4.out.mono HW.out.size)),HF2⟩
            case measure=>simp [intOf]; omega
         ·have hltI4:¬ (j:Int) < m:=by omega
          obtain rfl:m=j:=by omega
          have htk:(ZL p).take m=ZL p:=List.take_of_length_le (by rw [HM.out]; omega)
          have hR:R=false:=by rw [← HAN3.out,← htk]; exact HF.out
          have HRR:=Lh hR;clear htk hR
          go_wp2_with fail
          go_ret;exact ⟨by rw [HRR.out]; rfl,K3.out.trans (HW.out.mono K3.out.size)⟩
end Go.Proofs.YtjndhfcfcedheaaGreatDoor
