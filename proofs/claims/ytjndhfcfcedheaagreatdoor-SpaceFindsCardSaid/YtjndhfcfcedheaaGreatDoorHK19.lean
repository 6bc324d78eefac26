/- Texts that belong together: VC. -/
import Derived.Test.YtjndhfcfcedheaaGreatDoorHK18
set_option linter.unusedVariables false
set_option linter.unusedSimpArgs false
set_option maxRecDepth 100000
set_option maxHeartbeats 16000000
namespace Go.Proofs.YtjndhfcfcedheaaGreatDoor
open Go.RowKit
structure Zpf (k:KK) (B S0 bw bs gf gt g1 g2 g3 g4 n nv nc cf ct c1 c2 c3 c4:Nat) (T:List (KP×Nat)→Nat→Nat) (s:PlS) (vin cin:List Int) (s0:Value) (W:World):Prop where
 hin:k.In W B
 hB:B≤W.heap.size
 hpl:ZH S0 bw T s W
 hvf:s.vf = .slice (some ⟨gf,0,none⟩) n cf
 hvt:s.vt = .slice (some ⟨gt,0,none⟩) n ct
 ht:Zak s.pl
 hn:s.pl.par.length=n
 hn1:n≤4096
 hg1:s.pl.grp.length≤4096
 hgl:∀ g∈s.pl.grp,g.length≤4096
 xbs:Blk W bs 38 #[s0,.slice (some ⟨g1,0,none⟩) nv c1,.slice (some ⟨g2,0,none⟩) nv c2,.slice (some ⟨g3,0,none⟩) nc c3,.slice (some ⟨g4,0,none⟩) nc c4]
 x1:Blk W g1 3 (ZV (List.replicate nv (-1)))
 x2:Blk W g2 3 (ZV vin)
 x3:Blk W g3 3 (ZV (List.replicate nc (-1)))
 x4:Blk W g4 3 (ZV cin)
 lv:vin.length=nv
 kv:k.vars.length=nv
 lc:cin.length=nc
 rv:InR n vin
 rc:InR n cin
 nv:nv≤256
 nc:nc≤64
 dims:∀ x∈k.vars,0≤x.dim∧x.dim≤64
 temps:∀ f,T s.pl.uses f≤12289
 ne:g1≠g2∧g1≠g3∧g1≠g4∧g3≠g2∧g3≠g4
 lo:g1 < S0∧g3 < S0∧B≤g1∧B≤g3∧B≤gf
def ZqE (k:KK) (gf g1 g3 nc:Nat) (T:List (KP×Nat)→Nat→Nat) (s:PlS) (vin cin:List Int) (W:World) (e:Ending) (W':World):Prop :=
 e = .returned (.tuple #[])∧Zl W.heap.size (fun k=>k=gf∨k=g1∨k=g3) W W'∧Zfg W' gf (Zdf (T s.pl.uses) vin cin k.vars nc s.pl)∧Blk W' g1 3 (ZV (Za2 vin k.vars))∧Blk W' g3 3 (ZV (Zaq vin cin k.vars nc))
theorem Zb3 {vs:List ZZ} (h:∀ x∈vs,0≤x.dim∧x.dim≤64):∀ x∈Zz vs,x≤64:=fun x hx=>by
 unfold Zz at hx;obtain ⟨y,hy,rfl⟩:=List.mem_map.1 hx;have:=h y hy
 omega
theorem Zho {vs:List ZZ} {i:Nat} {x:ZZ} (h:vs[i]? = some x):(((Zz vs).getD i 0:Nat):Int)=max 1 x.dim:=by
 unfold Zz;rw [List.getD_eq_getElem?_getD,List.getElem?_map,h];simp only [Option.map_some,Option.getD_some]
 omega
theorem ZdV (n:Nat):∀ x∈List.replicate n 1,x≤1:=fun x hx=>by rw [List.eq_of_mem_replicate hx]; exact Nat.le_refl _
theorem Zlb {n i:Nat} (h:i < n):(List.replicate n 1).getD i 0=1:=by rw [List.getD_eq_getElem?_getD,List.getElem?_replicate,if_pos h]; rfl
theorem ZjQ (n:Nat) (vin:List Int) (sz:List Nat):Zeo n n 2 0=Zbu n (fun _=>2) vin sz 0:=by
 rw [ZhS,Zhk]
 exact ZK fun k _=>by rw [ZaN]; rfl
theorem Zm4 (n:Nat) (vin cin:List Int) (vs:List ZZ) (sz:List Nat):Zbu n (fun _=>2) vin (Zz vs) vs.length=Zbu n (Zbo vin vs) cin sz 0:=ZK fun k _=>by rw [ZaN]; rfl
theorem InR.at {n:Nat} {m:List Int} (h:InR n m) {i:Nat} (hi:i < m.length):(ZV m)[i]? = some (.int .i64 (m.getD i (-1)))∧-1≤m.getD i (-1)∧m.getD i (-1) < n:=⟨ZaL hi,h.getD i⟩
structure ZqJ (k:KK) (B bw bs gt g1 g2 g3 g4 n nv nc c1 c2 c3 c4:Nat) (vf vt vg s0:Value) (vin cin:List Int) (tps:List Value) (W:World):Prop where
 pb:Blk W bw 57 #[vf,vt,vg]
 bs:Blk W bs 38 #[s0,.slice (some ⟨g1,0,none⟩) nv c1,.slice (some ⟨g2,0,none⟩) nv c2,.slice (some ⟨g3,0,none⟩) nc c3,.slice (some ⟨g4,0,none⟩) nc c4]
 x2:Blk W g2 3 (ZV vin)
 x4:Blk W g4 3 (ZV cin)
 hin:k.In W B
 tp:∀ i,i < n→∃ v,tps[i]? = some v∧W.cell? ⟨gt,i,none⟩=some v
 tl:gt < W.heap.size
theorem Zkx {par:List Int} {q:Int×List FrL} (h:q.2.length=par.length∧∀ (k:Nat) (x:FrL),q.2[k]? = some x→x.parent=par.getD k (-1)) (f:Nat):(Za6 q f).2.length=par.length∧∀ (k:Nat) (x:FrL),(Za6 q f).2[k]? = some x→x.parent=par.getD k (-1):=by
 obtain ⟨h1,h2⟩:=h
 have key:∀ (fr:List FrL) (k:Nat) (x:FrL),(fr.length=par.length∧∀ (k:Nat) (x:FrL),fr[k]? = some x→x.parent=par.getD k (-1))→x.parent=(fr.getD k default).parent→(fr.set k x).length=par.length∧∀ (i:Nat) (y:FrL),(fr.set k x)[i]? = some y→y.parent=par.getD i (-1):=by
  intro fr k x ⟨g1,g2⟩ hx;refine ⟨by rw [List.length_set]; exact g1,fun i y hy=>?_⟩
  by_cases hk:k=i
  ·subst hk;have hl:=(List.getElem?_eq_some_iff.1 hy).1;rw [List.length_set] at hl;rw [List.getElem?_set_self hl] at hy;obtain rfl:=Option.some.inj hy;rw [hx,List.getD_eq_getElem?_getD,List.getElem?_eq_getElem hl];exact g2 _ _ (List.getElem?_eq_getElem hl)
  ·rw [List.getElem?_set_ne hk] at hy;exact g2 i y hy
 unfold Za6;exact key _ _ _ (key _ _ _ ⟨h1,h2⟩ rfl) rfl
theorem Zen {par:List Int}:∀ (g:List Nat) {q:Int×List FrL},(q.2.length=par.length∧∀ (k:Nat) (x:FrL),q.2[k]? = some x→x.parent=par.getD k (-1))→(g.foldl Za6 q).2.length=par.length∧∀ (k:Nat) (x:FrL),(g.foldl Za6 q).2[k]? = some x→x.parent=par.getD k (-1)
 | [],q,h=>h
 | f :: g,q,h=>Zen g (Zkx h f)
theorem Zdw {par:List Int}:∀ (gs:List (List Nat)) {fr:List FrL},(fr.length=par.length∧∀ (k:Nat) (x:FrL),fr[k]? = some x→x.parent=par.getD k (-1))→(gs.foldl Zbc fr).length=par.length∧∀ (k:Nat) (x:FrL),(gs.foldl Zbc fr)[k]? = some x→x.parent=par.getD k (-1)
 | [],fr,h=>h
 | g :: gs,fr,h=>Zdw gs (Zen g (q:=(5,fr)) h)
theorem Zit (par:List Int) (nx tp:Nat→Nat) (j:Nat):(frJ par nx tp j).length=par.length∧∀ (k:Nat) (x:FrL),(frJ par nx tp j)[k]? = some x→x.parent=par.getD k (-1):=by
 refine ⟨Ziu par nx tp j,fun k x hx=>?_⟩
 have hk:k < par.length:=by have:=(List.getElem?_eq_some_iff.1 hx).1; rwa [Ziu] at this
 unfold frJ at hx;rw [Zc1 _ hk] at hx;obtain rfl:=Option.some.inj hx
 split <;> rfl
theorem ZjK {S0 bw:Nat} {T:List (KP×Nat)→Nat→Nat} {s:PlS} {W:World} (h:ZH S0 bw T s W) {i:Nat} (hi:i < s.pl.grp.length) :
  ∃ gg cg Ai ci g,s.vg = .slice (some ⟨gg,0,none⟩) s.pl.grp.length cg∧S0≤gg∧s.pl.grp[i]? = some g∧(∃ c,Blk W gg 32 c)∧W.cell? ⟨gg,i,none⟩=some (.slice Ai g.length ci)∧∀ (j f:Nat),g[j]? = some f→∃ gi,Ai=some ⟨gi,0,none⟩∧S0≤gi∧(∃ c,Blk W gi 3 c)∧W.cell? ⟨gi,j,none⟩=some (.int .i64 f):=by
 have hadd:∀ (g i:Nat),(⟨g,0,none⟩:Addr).add i=⟨g,i,none⟩:=fun g i=>by unfold Addr.add; split <;> simp_all
 obtain ⟨gg,cg,hv,hb,hlt⟩:=h.gp.1.form (by omega)
 have hown:s.vg.ownBlock=some gg:=by rw [hv]; rfl
 have hc:=h.gp.1.cells (g:=gg) hown;have hg:s.pl.grp[i]? = some s.pl.grp[i]:=List.getElem?_eq_getElem hi;obtain ⟨v,q1,q2,-⟩:=h.gp.2.2 i _ hg;obtain ⟨Ai,ci,rfl⟩:=Zv q2;have h3:=hc _ _ q1;rw [hadd] at h3;refine ⟨gg,cg,Ai,ci,_,hv,hb,hg,ZN h.gp.1 hown,h3,fun j f hf=>?_⟩;have hj:=(List.getElem?_eq_some_iff.1 hf).1;obtain ⟨gi,cx,hv2,hb2,hlt2⟩:=q2.form (by omega)
 have hown2:(Value.slice Ai s.pl.grp[i].length ci).ownBlock=some gi:=by rw [hv2]; rfl
 have h4:=q2.cells (g:=gi) hown2 j (Zmc f) (by unfold ZbS; rw [List.getElem?_map,hf]; rfl);rw [hadd] at h4;exact ⟨gi,by injection hv2,hb2,ZN q2 hown2,h4⟩
theorem sLay (k:KK) (B S0 bw bs gf gt g1 g2 g3 g4 n nv nc cf ct c1 c2 c3 c4:Nat) (T:List (KP×Nat)→Nat→Nat) (s:PlS) (vin cin:List Int) (s0:Value) (W:World) (h:Zpf k B S0 bw bs gf gt g1 g2 g3 g4 n nv nc cf ct c1 c2 c3 c4 T s vin cin s0 W) :
  Calls Tryz.prog 21 #[.pointer (some ⟨bw,0,none⟩),.agg k.flat,.pointer (some ⟨bs,0,none⟩)] W (ZqE k gf g1 g3 nc T s vin cin W):=by
 have HL:=Lh h;have hkv:=h.kv;have hn1:=h.hn1;have hnv:=h.nv;have hnc:=h.nc
 have hpos:0 < n:=by rw [← h.hn]; exact h.ht.pos
 have hgfS:S0≤gf∧gf < W.heap.size:=h.hpl.fr.lt gf (by rw [h.hvf]; rfl);have hg1S:=h.x1.lt;have hg3S:=h.x3.lt;have hlo:=h.lo;have hne:=h.ne;have HG:Hid (gf < W.heap.size∧g1 < W.heap.size∧g3 < W.heap.size):=Lh ⟨hgfS.2,hg1S,hg3S⟩;have HNE:Hid (g1≠gf∧g3≠gf∧g1≠g3):=Lh ⟨by omega,by omega,hne.2.1⟩;obtain ⟨i0,hi0,hz0,hz1,hz2⟩:=info_parts Zcu;have hmk:=ZcD (P:=Tryz.prog) 32 3 i0 _ Tryz.underlying32 hi0 hz0 .i64 .i64 n n (Nat.le_refl _) (by rw [hz2]; omega) (by omega) (W.alloc (.cells k.flat 34));rw [hz1,Nat.mul_one,Zi0,World.size_alloc] at hmk;have hgt:S0≤gt∧gt < W.heap.size:=h.hpl.tm.lt gt (by rw [h.hvt]; rfl)
 obtain ⟨ng,hng⟩:∃ m,s.pl.grp.length=m:=⟨_,rfl⟩
 have HNG:=Lh hng
 have hng1:ng≤4096:=by rw [← hng]; exact h.hg1
 obtain ⟨Ag,cg,hvg⟩:=Zv h.hpl.gp.1;rw [hng] at hvg
 obtain ⟨tps,htps⟩:∃ l,ZbS (tb n (T s.pl.uses))=l:=⟨_,rfl⟩
 have HTP:=Lh htps
 have HKP:Hid (∀ wr,Zl W.heap.size (fun k=>k=gf∨k=g1∨k=g3) W wr→ZqJ k B bw bs gt g1 g2 g3 g4 n nv nc c1 c2 c3 c4 (.slice (some ⟨gf,0,none⟩) n cf) (.slice (some ⟨gt,0,none⟩) n ct) (.slice Ag ng cg) s0 vin cin tps wr):=Lh fun wr hb=>by
  have hfar:∀ {g:Nat} {t:TypeId} {cs:Array Value},Blk W g t cs→(g≠gf∧g≠g1∧g≠g3)→Blk wr g t cs:=fun hg hn=>hb.blk hg hg.lt fun hX=>by rcases hX with e | e | e <;> simp [e] at hn
  have hfb:gf≠bw:=fun e=>by have:=h.hpl.lo; omega
  have h1b:g1≠bw:=h.x1.ne_ h.hpl.blk (by decide);have h3b:g3≠bw:=h.x3.ne_ h.hpl.blk (by decide);have fb:∃ c,Blk W gf 74 c:=ZN h.hpl.fr (by rw [h.hvf]; rfl);obtain ⟨cf',fb⟩:=fb;have tb':∃ c,Blk W gt 3 c:=ZN h.hpl.tm (by rw [h.hvt]; rfl);obtain ⟨ct',tbk⟩:=tb';have hbw:=h.hpl.blk;rw [h.hvf,h.hvt,hvg] at hbw
  refine ⟨hfar hbw ⟨Ne.symm hfb,Ne.symm h1b,Ne.symm h3b⟩,hfar h.xbs ⟨(h.xbs.ne_ fb (by decide)),h.xbs.ne_ h.x1 (by decide),h.xbs.ne_ h.x3 (by decide)⟩,hfar h.x2 ⟨fun e=>(h.x2.ne_ fb (by decide)) e,Ne.symm hne.1,Ne.symm hne.2.2.2.1⟩,hfar h.x4 ⟨fun e=>(h.x4.ne_ fb (by decide)) e,Ne.symm hne.2.2.1,Ne.symm hne.2.2.2.2⟩,
   h.hin.below (hb.below h.hB fun k hk=>by rcases hk with rfl | rfl | rfl <;> omega),fun i hi=>?_,Nat.lt_of_lt_of_le hgt.2 hb.size⟩
  have hc:=h.hpl.tm.cells (g:=gt) (by rw [h.hvt]; rfl)
  have hi2:(ZbS (tb s.pl.par.length (T s.pl.uses)))[i]? = some (Zmc (T s.pl.uses i)):=by unfold ZbS; rw [List.getElem?_map,Zc1 _ (by rw [h.hn]; exact hi)]; rfl
  refine ⟨_,by rw [← htps,← h.hn]; exact hi2,?_⟩;have h3:=hc _ _ hi2
  have hadd:(⟨gt,0,none⟩:Addr).add i=⟨gt,i,none⟩:=by unfold Addr.add; split <;> simp_all
  rw [hadd] at h3;have tb2:=hfar tbk ⟨tbk.ne_ fb (by decide),fun e=>by omega,fun e=>by omega⟩;rw [tb2.cell,← tbk.cell];exact h3
 have HFR:Hid (Zfg W gf (Zan s.pl.par)):=Lh (by
  obtain ⟨c,fb⟩:=ZN h.hpl.fr (k:=gf) (by rw [h.hvf]; rfl);refine ⟨c,fb,fun i u hu=>?_⟩;have hc:=h.hpl.fr.cells (g:=gf) (by rw [h.hvf]; rfl) i u hu
  have hadd:(⟨gf,0,none⟩:Addr).add i=⟨gf,i,none⟩:=by unfold Addr.add; split <;> simp_all
  rw [hadd,fb.cell] at hc
  exact hc)
 have HGR:Hid (∀ i,i < ng→∃ gg Ai ci g,Ag=some ⟨gg,0,none⟩∧gg < W.heap.size∧s.pl.grp[i]? = some g∧g.length≤4096∧(∀ wr,Zl W.heap.size (fun k=>k=gf∨k=g1∨k=g3) W wr→wr.cell? ⟨gg,i,none⟩=some (.slice Ai g.length ci))∧∀ (j f:Nat),g[j]? = some f→∃ gi,Ai=some ⟨gi,0,none⟩∧gi < W.heap.size∧∀ wr,Zl W.heap.size (fun k=>k=gf∨k=g1∨k=g3) W wr→wr.cell? ⟨gi,j,none⟩=some (.int .i64 f)):=Lh fun i hi=>by
  obtain ⟨gg,cg',Ai,ci,g,h1,h2,h3,⟨cc,h4⟩,h5,h6⟩:=ZjK h.hpl (by rw [hng]; exact hi);obtain ⟨cf',fb⟩:=ZN h.hpl.fr (k:=gf) (by rw [h.hvf]; rfl);rw [hvg] at h1;refine ⟨gg,Ai,ci,g,(by injection h1),h4.lt,h3,h.hgl g (List.mem_of_getElem? h3),fun wr hb=>?_,fun j f hf=>?_⟩
  ·have:=hb.blk h4 h4.lt (fun hX=>by
    rcases hX with e | e | e
    ·exact h4.ne_ fb (by decide) e
    ·omega
    ·omega)
   rw [this.cell,← h4.cell]; exact h5
  ·obtain ⟨gi,q1,q2,⟨c2,q3⟩,q4⟩:=h6 j f hf;refine ⟨gi,q1,q3.lt,fun wr hb=>?_⟩
   have:=hb.blk q3 q3.lt (fun hX=>by
    rcases hX with e | e | e
    ·exact q3.ne_ fb (by decide) e
    ·omega
    ·omega)
   rw [this.cell,← q3.cell]; exact q4
 obtain ⟨W1,hW1⟩:∃ W1,(W.alloc (.cells k.flat 34)).alloc (.cells (ZV (List.replicate n 0)) 3)=W1:=⟨_,rfl⟩
 have S:Hid (LyS W gf g1 g3 k.flat (Zan s.pl.par) (Zeo n 0 2 0) (List.replicate nv (-1)) (List.replicate nc (-1)) W1):=Lh (by
  have hb:Below W.heap.size W W1:=by rw [← hW1]; exact ((Below.refl _ _).alloc (Nat.le_refl _) _).alloc (by simp) _
  refine ⟨Zl.of hb,?_,?_,HFR.out.same (hb.block gf hgfS.2),h.x1.call hb,h.x3.call hb⟩
  ·rw [← hW1]; exact (Blk.new _ _ _).alloc _
  ·rw [← hW1,ZgK]; have:=Blk.new (W.alloc (.cells k.flat 34)) 3 (ZV (List.replicate n 0)); rwa [World.size_alloc] at this)
 have kp:=HKP.out W (Zl.of (Below.refl _ _));have p0:=kp.pb;obtain ⟨e0,e1,e2⟩:=p0.c3;simp at e0 e1 e2;have hlp:=p0.lt;clear h p0 kp hlo hne hgfS hg1S hg3S hgt hvg htps;simp only [KK.flat,hkv] at HKP S hW1 hmk ⊢;go_enter Tryz.func21,Tryz.ntmps21
 go_upto_region 2 with fail
 clear hW1 hmk e0 e1 e2 hlp
 go_wp2_with fail
 go_loopw [28] (fun i wr=>∃ j:Nat,j≤n∧i = .int .i64 j∧Hid (LyS W gf g1 g3 #[.slice k.Av nv k.cv,.slice k.Ac k.chans.length k.cc,.int .u8 k.root.kind,.int .i64 k.root.c,.int .i64 k.root.v,.int .u8 k.root.item,.slice k.root.At k.root.tos.length k.root.ct,.slice k.root.Ae k.root.e.length k.root.ce,.slice k.root.Ag k.root.g.length k.root.cg,.slice k.root.Al k.root.l.length k.root.cl,.slice k.Ap k.procs.length k.cp] (Zan s.pl.par) (Zeo n j 2 0) (List.replicate nv (-1)) (List.replicate nc (-1)) wr)) (fun i _=>n - (intOf i).toNat)
 case atStart=>exact ⟨0,Nat.zero_le _,rfl,S⟩
 case round =>
  clear S;obtain ⟨j,hj,rfl,S⟩:=hrel
  by_cases hlt:j < n
  ·have hltI:(j:Int) < n:=by omega
   have b:=S.out.nx;have d0:=b.cell j;rw [ZaL (by rw [ZhR hj]; exact hlt)] at d0;have f0:=b.frozen j;have hlb:=b.lt;generalize List.getD _ _ _=dv at d0;clear b
   go_wp2_with fail
   go_roundw
   case rel=>exact ⟨j+1,by omega,by go_num,Lh (by rw [← ZhQ hlt]; exact S.out.setNx HG.out j 2)⟩
   case measure=>simp [intOf]; omega
  ·have hltI:¬ (j:Int) < n:=by omega
   obtain rfl:n=j:=by omega
   have S2:Hid (LyS W gf g1 g3 #[.slice k.Av nv k.cv,.slice k.Ac k.chans.length k.cc,.int .u8 k.root.kind,.int .i64 k.root.c,.int .i64 k.root.v,.int .u8 k.root.item,.slice k.root.At k.root.tos.length k.root.ct,.slice k.root.Ae k.root.e.length k.root.ce,.slice k.root.Ag k.root.g.length k.root.cg,.slice k.root.Al k.root.l.length k.root.cl,.slice k.Ap k.procs.length k.cp] (Zan s.pl.par) (Zbu n (fun _=>2) vin (Zz k.vars) 0) (atT (fun _=>2) vin (Zz k.vars) 0) (List.replicate nc (-1)) wr):=Lh (by have:=S.out; rw [ZjQ n vin (Zz k.vars)] at this; rw [← Zjm,HL.out.lv]; exact this);clear S;have S:=S2;clear S2;have kp:=HKP.out _ S.out.bel;have hwz:=S.out.kb.lt;have hwn:=S.out.nx.lt;have zb:=kp.bs;have hlq:=zb.lt;obtain ⟨q0,q1,q2,q3,q4⟩:=zb.c5;simp at q0 q1 q2 q3 q4;clear zb;clear kp
   go_wp2_with fail
   go_loopw [40] (fun i wr=>∃ j:Nat,j≤nv∧i = .int .i64 j∧Hid (LyS W gf g1 g3 #[.slice k.Av nv k.cv,.slice k.Ac k.chans.length k.cc,.int .u8 k.root.kind,.int .i64 k.root.c,.int .i64 k.root.v,.int .u8 k.root.item,.slice k.root.At k.root.tos.length k.root.ct,.slice k.root.Ae k.root.e.length k.root.ce,.slice k.root.Ag k.root.g.length k.root.cg,.slice k.root.Al k.root.l.length k.root.cl,.slice k.Ap k.procs.length k.cp] (Zan s.pl.par) (Zbu n (fun _=>2) vin (Zz k.vars) j) (atT (fun _=>2) vin (Zz k.vars) j) (List.replicate nc (-1)) wr)) (fun i _=>nv - (intOf i).toNat)
   case atStart=>exact ⟨0,Nat.zero_le _,rfl,S⟩
   case round =>
    clear S q0 q1 q2 q3 q4 hlq hwz hwn;obtain ⟨j,hj,rfl,S⟩:=hrel;have kp:=HKP.out _ S.out.bel;have hwz:=S.out.kb.lt;have hwn:=S.out.nx.lt;have zb:=kp.bs;have hlq:=zb.lt;obtain ⟨q0,q1,q2,q3,q4⟩:=zb.c5;simp at q0 q1 q2 q3 q4;clear zb
    by_cases hlt:j < nv
    ·have hltI:(j:Int) < nv:=by omega
     have hx2:=kp.x2;have d2:=hx2.cell j;have hl2:=hx2.lt;have hri:=HL.out.rv.at (i:=j) (by rw [HL.out.lv]; exact hlt);rw [hri.1] at d2;have hf:=hri.2;have HF:Hid (vin.getD j (-1)=vin.getD j (-1)):=Lh rfl;generalize hfe:vin.getD j (-1)=f at *;have HFE:=Lh hfe;clear hx2 hri hfe HF
     by_cases hf0:f < 0
     ·have hf1:¬ 0≤f:=by omega
      clear kp
      go_wp2_with fail
      go_roundw
      case rel=>exact ⟨j+1,by omega,by go_num,Lh (by have h1:vin.getD j (-1) < 0:=(by rw [HFE.out]; exact hf0); rw [← Zgy h1,← Zjo h1]; exact S.out)⟩
      case measure=>simp [intOf]; omega
     ·have hf1:0≤f:=by omega
      obtain ⟨fn,rfl⟩:∃ m:Nat,f=m:=⟨f.toNat,by omega⟩
      have hfn:fn < n:=by omega
      have hsum:=ZbF vin (Zz k.vars) 64 (Zb3 HL.out.dims) (fn:Int) j;have b:=S.out.nx;have d3:=b.cell fn;rw [ZaL (by unfold Zbu; rw [Zch]; exact hfn)] at d3
      have hg3:(Zbu n (fun _=>2) vin (Zz k.vars) j).getD fn (-1)=((2+ZaN vin (Zz k.vars) (fn:Int) j:Nat):Int):=by unfold Zbu; rw [Zh7 _ hfn]
      have HG3:=Lh hg3;rw [hg3] at d3;have b1:=S.out.a1;have f4:=b1.frozen j;have d4:=b1.cell j;rw [ZaL (by unfold atT; rw [Zch,HL.out.lv]; exact hlt)] at d4;generalize List.getD (atT _ _ _ _) _ _=dv at d4;have hl1:=b1.lt;generalize hxn:ZaN vin (Zz k.vars) (fn:Int) j=xn at *;have HYtjndhfcfcedheaaGreatDoor:=Lh hxn
      have hxb:xn≤16384:=by omega
      have S1:Hid (LyS W gf g1 g3 #[.slice k.Av nv k.cv,.slice k.Ac k.chans.length k.cc,.int .u8 k.root.kind,.int .i64 k.root.c,.int .i64 k.root.v,.int .u8 k.root.item,.slice k.root.At k.root.tos.length k.root.ct,.slice k.root.Ae k.root.e.length k.root.ce,.slice k.root.Ag k.root.g.length k.root.cg,.slice k.root.Al k.root.l.length k.root.cl,.slice k.Ap k.procs.length k.cp] (Zan s.pl.par) (Zbu n (fun _=>2) vin (Zz k.vars) j) (atT (fun _=>2) vin (Zz k.vars) (j+1)) (List.replicate nc (-1)) ((wr.setCell ⟨g1,j,none⟩ (.int .i64 (2+(xn:Int)))).drew)):=Lh (by
       have:=S.out.setA1 HG.out ⟨HNE.out.1,HNE.out.2.2⟩ j ((2+xn:Nat):Int);rw [← HYtjndhfcfcedheaaGreatDoor.out,Zjn (start:=fun _=>2) (sz:=Zz k.vars) HFE.out (by omega),HYtjndhfcfcedheaaGreatDoor.out,Int.natCast_add] at this
       exact this.drew)
      clear b b1 hg3 hxn hsum kp
      go_upto_region 11 with fail
      go_region
      go_upto_region 12 with fail
      generalize (wr.setCell ⟨g1,j,none⟩ (.int .i64 (2+(xn:Int)))).drew=w2 at *;clear S q0 q1 q2 q3 q4 d2 d3 d4 f4 hlq hwz hwn hl2 hl1;have kp:=HKP.out _ S1.out.bel;obtain ⟨vb,vo,x,hA,hvb,hx,hmx,k0,k1⟩:=Zb2 kp.hin.1.2.1 rfl (k:=j) (by rw [HL.out.kv]; exact hlt);have hdm:=HL.out.dims x hmx;have HSZ:=Lh (Zho hx);have b:=S1.out.nx;have d3:=b.cell fn;rw [ZaL (by unfold Zbu; rw [Zch]; exact hfn),HG3.out] at d3;have f3:=b.frozen fn;have hwn:=b.lt;have kb:=S1.out.kb;have k2:=kb.cell 0;have hwz:=kb.lt;simp at k2;have hvbw:vb < w2.heap.size:=Nat.lt_of_lt_of_le (Nat.lt_of_lt_of_le hvb HL.out.hB) S1.out.bel.size;rw [hA] at k2
      obtain ⟨dm,hdq⟩:∃ d,x.dim=d:=⟨_,rfl⟩
      rw [hdq] at k1 HSZ hdm
      have HST:Hid (LyS W gf g1 g3 #[.slice k.Av nv k.cv,.slice k.Ac k.chans.length k.cc,.int .u8 k.root.kind,.int .i64 k.root.c,.int .i64 k.root.v,.int .u8 k.root.item,.slice k.root.At k.root.tos.length k.root.ct,.slice k.root.Ae k.root.e.length k.root.ce,.slice k.root.Ag k.root.g.length k.root.cg,.slice k.root.Al k.root.l.length k.root.cl,.slice k.Ap k.procs.length k.cp] (Zan s.pl.par) (Zbu n (fun _=>2) vin (Zz k.vars) (j+1)) (atT (fun _=>2) vin (Zz k.vars) (j+1)) (List.replicate nc (-1)) (w2.setCell ⟨W.heap.size+1,fn,none⟩ (.int .i64 (2+(xn:Int)+max 1 dm)))):=Lh (by
       have:=S1.out.setNx HG.out fn (((2+xn:Nat):Int)+max 1 dm);rw [← HYtjndhfcfcedheaaGreatDoor.out,← HSZ.out,Zgx (start:=fun _=>2) (sz:=Zz k.vars) HFE.out,HYtjndhfcfcedheaaGreatDoor.out,HSZ.out,Int.natCast_add] at this
       exact this)
      clear b kb hA hx hmx hdq kp
      go_region
      go_wp2_with fail
      go_roundw
      case rel=>exact ⟨j+1,by omega,by go_num,Lh HST.out.drew⟩
      case measure=>simp [intOf]; omega
    ·have hltI:¬ (j:Int) < nv:=by omega
     obtain rfl:nv=j:=by omega
     have S2:Hid (LyS W gf g1 g3 #[.slice k.Av nv k.cv,.slice k.Ac k.chans.length k.cc,.int .u8 k.root.kind,.int .i64 k.root.c,.int .i64 k.root.v,.int .u8 k.root.item,.slice k.root.At k.root.tos.length k.root.ct,.slice k.root.Ae k.root.e.length k.root.ce,.slice k.root.Ag k.root.g.length k.root.cg,.slice k.root.Al k.root.l.length k.root.cl,.slice k.Ap k.procs.length k.cp] (Zan s.pl.par) (Zbu n (Zbo vin k.vars) cin (List.replicate nc 1) 0) (Za2 vin k.vars) (atT (fun f=>2+ZaN vin (Zz k.vars) f k.vars.length) cin (List.replicate nc 1) 0) wr):=Lh (by
      have:=S.out
      have e1:Zbu n (fun _=>2) vin (Zz k.vars) nv=Zbu n (Zbo vin k.vars) cin (List.replicate nc 1) 0:=by rw [← hkv]; exact Zm4 _ _ _ _ _
      have e2:atT (fun _=>2) vin (Zz k.vars) nv=Za2 vin k.vars:=by rw [← HL.out.lv]; exact Zl3 _ _ _
      have e3:List.replicate nc (-1)=atT (fun f=>2+ZaN vin (Zz k.vars) f k.vars.length) cin (List.replicate nc 1) 0:=by
       have:=Zjm (fun f=>2+ZaN vin (Zz k.vars) f k.vars.length) cin (List.replicate nc 1)
       rwa [HL.out.lc] at this
      rw [e1,e2,e3] at this
      exact this)
     clear S;have S:=S2;clear S2 kp
     go_wp2_with fail
     go_loopw [76] (fun i wr=>∃ j:Nat,j≤nc∧i = .int .i64 j∧Hid (LyS W gf g1 g3 #[.slice k.Av nv k.cv,.slice k.Ac k.chans.length k.cc,.int .u8 k.root.kind,.int .i64 k.root.c,.int .i64 k.root.v,.int .u8 k.root.item,.slice k.root.At k.root.tos.length k.root.ct,.slice k.root.Ae k.root.e.length k.root.ce,.slice k.root.Ag k.root.g.length k.root.cg,.slice k.root.Al k.root.l.length k.root.cl,.slice k.Ap k.procs.length k.cp] (Zan s.pl.par) (Zbu n (Zbo vin k.vars) cin (List.replicate nc 1) j) (Za2 vin k.vars) (atT (fun f=>2+ZaN vin (Zz k.vars) f k.vars.length) cin (List.replicate nc 1) j) wr)) (fun i _=>nc - (intOf i).toNat)
     case atStart=>exact ⟨0,Nat.zero_le _,rfl,S⟩
     case round =>
      clear S q0 q1 q2 q3 q4 hlq hwz hwn;obtain ⟨j,hj,rfl,S⟩:=hrel;have kp:=HKP.out _ S.out.bel;have hwz:=S.out.kb.lt;have hwn:=S.out.nx.lt;have zb:=kp.bs;have hlq:=zb.lt;obtain ⟨q0,q1,q2,q3,q4⟩:=zb.c5;simp at q0 q1 q2 q3 q4;clear zb
      by_cases hlt:j < nc
      ·have hltI:(j:Int) < nc:=by omega
       have hx2:=kp.x4;have d2:=hx2.cell j;have hl2:=hx2.lt;have hri:=HL.out.rc.at (i:=j) (by rw [HL.out.lc]; exact hlt);rw [hri.1] at d2;have hf:=hri.2;generalize hfe:cin.getD j (-1)=f at *;have HFE:=Lh hfe;clear hx2 hri hfe
       by_cases hf0:f < 0
       ·have hf1:¬ 0≤f:=by omega
        clear kp
        go_wp2_with fail
        go_roundw
        case rel=>exact ⟨j+1,by omega,by go_num,Lh (by have h1:cin.getD j (-1) < 0:=(by rw [HFE.out]; exact hf0); rw [← Zgy h1,← Zjo h1]; exact S.out)⟩
        case measure=>simp [intOf]; omega
       ·have hf1:0≤f:=by omega
        obtain ⟨fn,rfl⟩:∃ m:Nat,f=m:=⟨f.toNat,by omega⟩
        have hfn:fn < n:=by omega
        have hsum:=ZbF cin (List.replicate nc 1) 1 (ZdV nc) (fn:Int) j;have hsum2:=ZbF vin (Zz k.vars) 64 (Zb3 HL.out.dims) (fn:Int) k.vars.length;have b:=S.out.nx;have d3:=b.cell fn;rw [ZaL (by unfold Zbu; rw [Zch]; exact hfn)] at d3
        have hg3:(Zbu n (Zbo vin k.vars) cin (List.replicate nc 1) j).getD fn (-1)=((Zbo vin k.vars fn+ZaN cin (List.replicate nc 1) (fn:Int) j:Nat):Int):=by unfold Zbu; rw [Zh7 _ hfn]
        have HG3:=Lh hg3;rw [hg3] at d3;have b1:=S.out.a3;have f4:=b1.frozen j;have d4:=b1.cell j;rw [ZaL (by unfold atT; rw [Zch,HL.out.lc]; exact hlt)] at d4;generalize List.getD (atT _ _ _ _) _ _=dv at d4;have hl1:=b1.lt
        have hxs:Zbo vin k.vars fn+ZaN cin (List.replicate nc 1) (fn:Int) j≤17000:=by unfold Zbo; omega
        generalize hxn:Zbo vin k.vars fn+ZaN cin (List.replicate nc 1) (fn:Int) j=xn at *;have HYtjndhfcfcedheaaGreatDoor:=Lh hxn
        have S1:Hid (LyS W gf g1 g3 #[.slice k.Av nv k.cv,.slice k.Ac k.chans.length k.cc,.int .u8 k.root.kind,.int .i64 k.root.c,.int .i64 k.root.v,.int .u8 k.root.item,.slice k.root.At k.root.tos.length k.root.ct,.slice k.root.Ae k.root.e.length k.root.ce,.slice k.root.Ag k.root.g.length k.root.cg,.slice k.root.Al k.root.l.length k.root.cl,.slice k.Ap k.procs.length k.cp] (Zan s.pl.par) (Zbu n (Zbo vin k.vars) cin (List.replicate nc 1) j) (Za2 vin k.vars) (atT (fun f=>2+ZaN vin (Zz k.vars) f k.vars.length) cin (List.replicate nc 1) (j+1)) ((wr.setCell ⟨g3,j,none⟩ (.int .i64 xn)).drew)):=Lh (by
         have:=S.out.setA3 HG.out ⟨HNE.out.2.1,HNE.out.2.2⟩ j ((xn:Nat):Int);have hst:=Zjn (start:=fun f=>2+ZaN vin (Zz k.vars) f k.vars.length) (sz:=List.replicate nc 1) HFE.out (by omega)
         have hq:(((fun f=>2+ZaN vin (Zz k.vars) f k.vars.length) (fn:Int)+ZaN cin (List.replicate nc 1) (fn:Int) j:Nat):Int)=(xn:Int):=by rw [← HYtjndhfcfcedheaaGreatDoor.out]; rfl
         rw [hq] at hst;rw [hst] at this
         exact this.drew)
        clear b b1 hg3 hxn hsum hsum2 kp
        go_upto_region 18 with fail
        go_region
        go_upto_region 19 with fail
        generalize (wr.setCell ⟨g3,j,none⟩ (.int .i64 (xn:Int))).drew=w2 at *;clear S q0 q1 q2 q3 q4 d2 d3 d4 f4 hlq hwz hwn hl2 hl1;have b:=S1.out.nx;have d3:=b.cell fn;rw [ZaL (by unfold Zbu; rw [Zch]; exact hfn),HG3.out] at d3;have f3:=b.frozen fn;have hwn:=b.lt
        have HST:Hid (LyS W gf g1 g3 #[.slice k.Av nv k.cv,.slice k.Ac k.chans.length k.cc,.int .u8 k.root.kind,.int .i64 k.root.c,.int .i64 k.root.v,.int .u8 k.root.item,.slice k.root.At k.root.tos.length k.root.ct,.slice k.root.Ae k.root.e.length k.root.ce,.slice k.root.Ag k.root.g.length k.root.cg,.slice k.root.Al k.root.l.length k.root.cl,.slice k.Ap k.procs.length k.cp] (Zan s.pl.par) (Zbu n (Zbo vin k.vars) cin (List.replicate nc 1) (j+1)) (Za2 vin k.vars) (atT (fun f=>2+ZaN vin (Zz k.vars) f k.vars.length) cin (List.replicate nc 1) (j+1)) (w2.setCell ⟨W.heap.size+1,fn,none⟩ (.int .i64 ((xn:Int)+1)))):=Lh (by
         have:=S1.out.setNx HG.out fn ((xn:Int)+1);have hst:=Zgx (n:=n) (start:=Zbo vin k.vars) (sz:=List.replicate nc 1) HFE.out;rw [HYtjndhfcfcedheaaGreatDoor.out,Zlb hlt] at hst;rw [show ((xn:Int)+1)=(xn:Int)+((1:Nat):Int) by rfl,hst] at this
         exact this)
        clear b
        go_wp2_with fail
        go_roundw
        case rel=>exact ⟨j+1,by omega,by go_num,Lh HST.out⟩
        case measure=>simp [intOf]; omega
      ·have hltI:¬ (j:Int) < nc:=by omega
       obtain rfl:nc=j:=by omega
       have S2:Hid (LyS W gf g1 g3 #[.slice k.Av nv k.cv,.slice k.Ac k.chans.length k.cc,.int .u8 k.root.kind,.int .i64 k.root.c,.int .i64 k.root.v,.int .u8 k.root.item,.slice k.root.At k.root.tos.length k.root.ct,.slice k.root.Ae k.root.e.length k.root.ce,.slice k.root.Ag k.root.g.length k.root.cg,.slice k.root.Al k.root.l.length k.root.cl,.slice k.Ap k.procs.length k.cp] (frJ s.pl.par (ZaA vin cin k.vars nc) (T s.pl.uses) 0) (tb n (fun f=>((ZaA vin cin k.vars nc f:Nat):Int))) (Za2 vin k.vars) (Zaq vin cin k.vars nc) wr):=Lh (by
        have:=S.out;have e3:=Zl3 (fun f=>2+ZaN vin (Zz k.vars) f k.vars.length) cin (List.replicate nc 1);rw [HL.out.lc] at e3;rw [e3,← Znl s.pl.par (ZaA vin cin k.vars nc) (T s.pl.uses)] at this
        exact this)
       clear S q0 q1 q2 q3 q4 hlq hwz hwn kp;have S:=S2;clear S2;have kp:=HKP.out _ S.out.bel;have hwz:=S.out.kb.lt;have hwn:=S.out.nx.lt;have p0:=kp.pb;have hlp:=p0.lt;obtain ⟨e0,e1,e2⟩:=p0.c3;simp at e0 e1 e2;clear p0;clear kp
       go_wp2_with fail
       go_loopw [105] (fun i wr=>∃ j:Nat,j≤n∧i = .int .i64 j∧Hid (LyS W gf g1 g3 #[.slice k.Av nv k.cv,.slice k.Ac k.chans.length k.cc,.int .u8 k.root.kind,.int .i64 k.root.c,.int .i64 k.root.v,.int .u8 k.root.item,.slice k.root.At k.root.tos.length k.root.ct,.slice k.root.Ae k.root.e.length k.root.ce,.slice k.root.Ag k.root.g.length k.root.cg,.slice k.root.Al k.root.l.length k.root.cl,.slice k.Ap k.procs.length k.cp] (frJ s.pl.par (ZaA vin cin k.vars nc) (T s.pl.uses) j) (tb n (fun f=>((ZaA vin cin k.vars nc f:Nat):Int))) (Za2 vin k.vars) (Zaq vin cin k.vars nc) wr)) (fun i _=>n - (intOf i).toNat)
       case atStart=>exact ⟨0,Nat.zero_le _,rfl,S⟩
       case round =>
        clear S e0 e1 e2 hlp hwz hwn;obtain ⟨j,hj,rfl,S⟩:=hrel;have kp:=HKP.out _ S.out.bel;have hwz:=S.out.kb.lt;have hwn:=S.out.nx.lt;have p0:=kp.pb;have hlp:=p0.lt;obtain ⟨e0,e1,e2⟩:=p0.c3;simp at e0 e1 e2;clear p0
        by_cases hlt:j < n
        ·have hltI:(j:Int) < n:=by omega
         obtain ⟨tv,htv,d5⟩:=kp.tp j hlt;have htl:=kp.tl;rw [← HTP.out] at htv;unfold ZbS at htv;rw [List.getElem?_map,Zc1 _ hlt] at htv;simp only [Option.map_some,Option.some.injEq,Zmc] at htv;subst htv;have htm:=HL.out.temps j;have b:=S.out.nx;have d3:=b.cell j;rw [ZaL (by rw [Zch]; exact hlt),Zh7 _ hlt] at d3;have hsum:=ZbF cin (List.replicate nc 1) 1 (ZdV nc) (j:Int) nc;have hsum2:=ZbF vin (Zz k.vars) 64 (Zb3 HL.out.dims) (j:Int) k.vars.length
         have hxs:ZaA vin cin k.vars nc j≤17000:=by unfold ZaA Zbo; omega
         have hfj:=Zp5 s.pl.par (ZaA vin cin k.vars nc) (T s.pl.uses) (j:=j) (by rw [HL.out.hn]; exact hlt);have hfs:=ZoX s.pl.par (ZaA vin cin k.vars nc) (T s.pl.uses) (j:=j) (by rw [HL.out.hn]; exact hlt);have f4:=S.out.fr.frozen (j * 5+4);have f2:=S.out.fr.frozen (j * 5+2);have hfc:=S.out.fr.cell hfj;have d7:=hfc.2.2.1;have d8:=hfc.2.2.2.2;have hlg:=S.out.fr.lt;generalize htn:T s.pl.uses j=tn at *;generalize hxn:ZaA vin cin k.vars nc j=xn at *;have HFS:=Lh hfs;have HFJ:=Lh hfj
         have S1:Hid (LyS W gf g1 g3 #[.slice k.Av nv k.cv,.slice k.Ac k.chans.length k.cc,.int .u8 k.root.kind,.int .i64 k.root.c,.int .i64 k.root.v,.int .u8 k.root.item,.slice k.root.At k.root.tos.length k.root.ct,.slice k.root.Ae k.root.e.length k.root.ce,.slice k.root.Ag k.root.g.length k.root.cg,.slice k.root.Al k.root.l.length k.root.cl,.slice k.Ap k.procs.length k.cp] (frJ s.pl.par (ZaA vin cin k.vars nc) (T s.pl.uses) (j+1)) (tb n (fun f=>((ZaA vin cin k.vars nc f:Nat):Int))) (Za2 vin k.vars) (Zaq vin cin k.vars nc) (((wr.setCell ⟨gf,j * 5+4,none⟩ (.int .i64 xn)).setCell ⟨gf,j * 5+2,none⟩ (.int .i64 ((xn:Int)+tn))).drew)):=Lh (by
          have h1:=S.out.setFr HG.out ⟨HNE.out.1,HNE.out.2.1⟩ (i:=4) (u:=.int .i64 xn) (x':=⟨s.pl.par.getD j (-1),0,0,5,xn⟩) HFJ.out (by decide) rfl;have hl:j < (frJ s.pl.par (ZaA vin cin k.vars nc) (T s.pl.uses) j).length:=(List.getElem?_eq_some_iff.1 HFJ.out).1;have h2:=h1.setFr HG.out ⟨HNE.out.1,HNE.out.2.1⟩ (k:=j) (i:=2) (u:=.int .i64 ((xn:Int)+tn)) (x':=⟨s.pl.par.getD j (-1),0,(xn:Int)+tn,5,xn⟩) (List.getElem?_set_self hl) (by decide) rfl;rw [List.set_set,← Int.natCast_add,HFS.out] at h2;rw [← Int.natCast_add]
          exact h2.drew)
         clear b hfc hfj hfs hsum hsum2 kp htn hxn
         go_upto_region 24 with fail
         go_region
         go_wp2_with fail
         go_roundw
         case rel=>exact ⟨j+1,by omega,by go_num,S1⟩
         case measure=>simp [intOf]; omega
        ·have hltI:¬ (j:Int) < n:=by omega
         obtain rfl:n=j:=by omega
         clear kp
         obtain ⟨FR0,hFR0⟩:∃ l,frJ s.pl.par (ZaA vin cin k.vars nc) (T s.pl.uses) n=l:=⟨_,rfl⟩
         have HFR0:=Lh hFR0;have hpar0:=Zit s.pl.par (ZaA vin cin k.vars nc) (T s.pl.uses) n;rw [hFR0] at S hpar0;have HPAR0:=Lh hpar0
         obtain ⟨NXF,hNXF⟩:∃ l,tb n (fun f=>((ZaA vin cin k.vars nc f:Nat):Int))=l:=⟨_,rfl⟩
         rw [hNXF] at S;clear hFR0 hNXF hpar0
         go_wp2_with fail
         go_loopw [144] (fun i wr=>∃ j:Nat,j≤ng∧i = .int .i64 j∧Hid (LyS W gf g1 g3 #[.slice k.Av nv k.cv,.slice k.Ac k.chans.length k.cc,.int .u8 k.root.kind,.int .i64 k.root.c,.int .i64 k.root.v,.int .u8 k.root.item,.slice k.root.At k.root.tos.length k.root.ct,.slice k.root.Ae k.root.e.length k.root.ce,.slice k.root.Ag k.root.g.length k.root.cg,.slice k.root.Al k.root.l.length k.root.cl,.slice k.Ap k.procs.length k.cp] ((s.pl.grp.take j).foldl Zbc FR0) (NXF) (Za2 vin k.vars) (Zaq vin cin k.vars nc) wr)) (fun i _=>ng - (intOf i).toNat)
         case atStart=>exact ⟨0,Nat.zero_le _,rfl,S⟩
         case round =>
          clear S e0 e1 e2 hlp hwz hwn;obtain ⟨j,hj,rfl,S⟩:=hrel;have kp:=HKP.out _ S.out.bel;have hwz:=S.out.kb.lt;have hwn:=S.out.nx.lt;have p0:=kp.pb;have hlp:=p0.lt;obtain ⟨e0,e1,e2⟩:=p0.c3;simp at e0 e1 e2;clear p0
          by_cases hlt:j < ng
          ·have hltI:(j:Int) < ng:=by omega
           obtain ⟨gg,Ai,ci,g,hAg,hgg,hg,hgl,hd,hgc⟩:=HGR.out j hlt;subst hAg;have d6:=hd _ S.out.bel;have hggw:gg < wr.heap.size:=Nat.lt_of_lt_of_le hgg S.out.bel.size
           obtain ⟨gl,hgl2⟩:∃ m,g.length=m:=⟨_,rfl⟩
           rw [hgl2] at d6 hgl;have HGL:=Lh hgl2;have HGC:=Lh hgc;have hpari:=Zdw (s.pl.grp.take j) HPAR0.out;have HST:Hid ((s.pl.grp.take (j+1)).foldl Zbc FR0=(g.foldl Za6 (5,(s.pl.grp.take j).foldl Zbc FR0)).2):=Lh (by rw [ZM hg,List.foldl_append]; rfl);obtain ⟨P,hP1,hP2⟩:=HL.out.ht.grp g (List.mem_of_getElem? hg);have HP2:=Lh hP2;rw [HL.out.hn] at hP1;generalize (s.pl.grp.take j).foldl Zbc FR0=fri at *;have HPI:=Lh hpari;clear hpari hP2 hgc hd hgl2 hg kp
           go_wp2_with fail
           go_loopw [150,15] (fun i v wr=>∃ q:Nat,q≤gl∧i = .int .i64 q∧v = .int .i64 ((g.take q).foldl Za6 (5,fri)).1∧Hid (LyS W gf g1 g3 #[.slice k.Av nv k.cv,.slice k.Ac k.chans.length k.cc,.int .u8 k.root.kind,.int .i64 k.root.c,.int .i64 k.root.v,.int .u8 k.root.item,.slice k.root.At k.root.tos.length k.root.ct,.slice k.root.Ae k.root.e.length k.root.ce,.slice k.root.Ag k.root.g.length k.root.cg,.slice k.root.Al k.root.l.length k.root.cl,.slice k.Ap k.procs.length k.cp] (((g.take q).foldl Za6 (5,fri)).2) (NXF) (Za2 vin k.vars) (Zaq vin cin k.vars nc) wr)) (fun i _ _=>gl - (intOf i).toNat)
           case atStart=>exact ⟨0,Nat.zero_le _,rfl,rfl,S⟩
           case round =>
            clear S e0 e1 e2 hlp hwz hwn d6 hggw;obtain ⟨q,hq,rfl,rfl,S⟩:=hrel;have kp:=HKP.out _ S.out.bel;have hwz:=S.out.kb.lt;have hwn:=S.out.nx.lt;have p0:=kp.pb;have hlp:=p0.lt;obtain ⟨e0,e1,e2⟩:=p0.c3;simp at e0 e1 e2;clear p0
            by_cases hltq:q < gl
            ·have hltqI:(q:Int) < gl:=by omega
             obtain ⟨f,hf⟩:∃ f,g[q]? = some f:=⟨g[q]'(by rw [HGL.out]; exact hltq),List.getElem?_eq_getElem _⟩
             obtain ⟨gi,hAi,hgi,hdc⟩:=HGC.out q f hf;subst hAi;have d7:=hdc _ S.out.bel;have hgiw:gi < wr.heap.size:=Nat.lt_of_lt_of_le hgi S.out.bel.size;have hpf:=HP2.out f (List.mem_of_getElem? hf)
             have hfn:f < n:=by rw [← HL.out.hn]; exact (List.getElem?_eq_some_iff.1 hpf).1
             have hcur:=Zen (g.take q) (q:=(5,fri)) HPI.out;have HSQ:Hid ((g.take (q+1)).foldl Za6 (5,fri)=Za6 ((g.take q).foldl Za6 (5,fri)) f):=Lh (by rw [ZM hf,List.foldl_append]; rfl);generalize (g.take q).foldl Za6 (5,fri)=cur at *;obtain ⟨d0,fr⟩:=cur
             simp only at S hcur ⊢
             have hlf:f < fr.length:=by rw [hcur.1,HL.out.hn]; exact hfn
             obtain ⟨x,hx⟩:∃ x,fr[f]? = some x:=⟨fr[f],List.getElem?_eq_getElem hlf⟩
             have hxp:x.parent=P:=by rw [hcur.2 f x hx,List.getD_eq_getElem?_getD,hpf]; rfl
             have hxc:=S.out.fr.cell hx;obtain ⟨a0,a1,a2,a3,a4⟩:=hxc;rw [hxp] at a0;have f1:=S.out.fr.frozen (f * 5+1);have hlg:=S.out.fr.lt;have HX:=Lh hx;have HXP:=Lh hxp;have HCUR:=Lh hcur;clear hx hxp hcur hf hpf hdc kp
             obtain ⟨d,hd⟩:∃ d,wrap64 (d0+x.above)=d:=⟨_,rfl⟩
             have HD:=Lh hd;have S1:Hid (LyS W gf g1 g3 #[.slice k.Av nv k.cv,.slice k.Ac k.chans.length k.cc,.int .u8 k.root.kind,.int .i64 k.root.c,.int .i64 k.root.v,.int .u8 k.root.item,.slice k.root.At k.root.tos.length k.root.ct,.slice k.root.Ae k.root.e.length k.root.ce,.slice k.root.Ag k.root.g.length k.root.cg,.slice k.root.Al k.root.l.length k.root.cl,.slice k.Ap k.procs.length k.cp] (fr.set f ⟨x.parent,d,x.above,x.below,x.temp⟩) (NXF) (Za2 vin k.vars) (Zaq vin cin k.vars nc) (wr.setCell ⟨gf,f * 5+1,none⟩ (.int .i64 d))):=Lh (S.out.setFr HG.out ⟨HNE.out.1,HNE.out.2.1⟩ (i:=1) (u:=.int .i64 d) (x':=⟨x.parent,d,x.above,x.below,x.temp⟩) HX.out (by decide) rfl);clear hd
             go_upto_region 35 with fail
             rw [HD.out];generalize wr.setCell ⟨gf,f * 5+1,none⟩ (.int .i64 d)=w2 at *;clear e0 e1 e2 hlp hwz hwn d7 hgiw a0 a1 a2 a3 a4 f1 hlg;have HS1:Hid ((fr.set f ⟨x.parent,d,x.above,x.below,x.temp⟩)[f]? = some ⟨x.parent,d,x.above,x.below,x.temp⟩):=Lh (List.getElem?_set_self hlf)
             have hPl:P < (fr.set f ⟨x.parent,d,x.above,x.below,x.temp⟩).length:=by rw [List.length_set,HCUR.out.1,HL.out.hn]; exact hP1
             obtain ⟨y,hy⟩:∃ y,(fr.set f ⟨x.parent,d,x.above,x.below,x.temp⟩)[P]? = some y:=⟨_,List.getElem?_eq_getElem hPl⟩
             have HY:=Lh hy;have hxc:=S1.out.fr.cell HS1.out;obtain ⟨a0,a1,a2,a3,a4⟩:=hxc;simp only [HXP.out] at a0;obtain ⟨y0,y1,y2,y3,y4⟩:=S1.out.fr.cell hy;have f3:=S1.out.fr.frozen (P * 5+3);have hlg:=S1.out.fr.lt;have kp:=HKP.out _ S1.out.bel;have p0:=kp.pb;have hlp:=p0.lt;obtain ⟨e0,e1,e2⟩:=p0.c3;simp at e0 e1 e2
             have HSTEP:Hid (Za6 (d0,fr) f=(wrap64 (d+x.below),(fr.set f ⟨x.parent,d,x.above,x.below,x.temp⟩).set P ⟨y.parent,y.down,y.above,max y.below (wrap64 (d+x.below)),y.temp⟩)):=Lh (by
              unfold Za6
              have h1:fr.getD f default=x:=by rw [List.getD_eq_getElem?_getD,HX.out]; rfl
              simp only [h1,HD.out,HXP.out,Int.toNat_natCast]
              have h2:(fr.set f ⟨(P:Int),d,x.above,x.below,x.temp⟩).getD P default=y:=by rw [List.getD_eq_getElem?_getD,← HXP.out,HY.out]; rfl
              rw [h2])
             have HS2:Hid (∀ w3,LyS W gf g1 g3 #[.slice k.Av nv k.cv,.slice k.Ac k.chans.length k.cc,.int .u8 k.root.kind,.int .i64 k.root.c,.int .i64 k.root.v,.int .u8 k.root.item,.slice k.root.At k.root.tos.length k.root.ct,.slice k.root.Ae k.root.e.length k.root.ce,.slice k.root.Ag k.root.g.length k.root.cg,.slice k.root.Al k.root.l.length k.root.cl,.slice k.Ap k.procs.length k.cp] (fr.set f ⟨x.parent,d,x.above,x.below,x.temp⟩) (NXF) (Za2 vin k.vars) (Zaq vin cin k.vars nc) w3→LyS W gf g1 g3 #[.slice k.Av nv k.cv,.slice k.Ac k.chans.length k.cc,.int .u8 k.root.kind,.int .i64 k.root.c,.int .i64 k.root.v,.int .u8 k.root.item,.slice k.root.At k.root.tos.length k.root.ct,.slice k.root.Ae k.root.e.length k.root.ce,.slice k.root.Ag k.root.g.length k.root.cg,.slice k.root.Al k.root.l.length k.root.cl,.slice k.Ap k.procs.length k.cp] ((fr.set f ⟨x.parent,d,x.above,x.below,x.temp⟩).set P ⟨y.parent,y.down,y.above,max y.below (wrap64 (d+x.below)),y.temp⟩) (NXF) (Za2 vin k.vars) (Zaq vin cin k.vars nc) (w3.setCell ⟨gf,P * 5+3,none⟩ (.int .i64 (max y.below (wrap64 (d+x.below)))))):=Lh fun w3 h3=>h3.setFr HG.out ⟨HNE.out.1,HNE.out.2.1⟩ (i:=3) (u:=.int .i64 (max y.below (wrap64 (d+x.below)))) (x':=⟨y.parent,y.down,y.above,max y.below (wrap64 (d+x.below)),y.temp⟩) HY.out (by decide) rfl;clear hPl hy p0 kp HS1 S
             go_region
             go_upto_region 36 with fail
             go_region
             go_upto_region 37 with fail
             go_wp2_with fail
             go_roundw
             case rel=>exact ⟨q+1,by omega,by go_num,by rw [HSQ.out,HSTEP.out],Lh (by rw [HSQ.out,HSTEP.out]; first | exact HS2.out _ S1.out.drew.drew | exact (HS2.out _ S1.out).drew.drew | exact (HS2.out _ S1.out.drew).drew)⟩
             case measure=>simp [intOf]; omega
            ·have hltqI:¬ (q:Int) < gl:=by omega
             obtain rfl:gl=q:=by omega
             have htk:g.take gl=g:=List.take_of_length_le (by rw [HGL.out]; omega);rw [htk] at S;clear kp htk
             go_wp2_with fail
             go_roundw
             case rel=>exact ⟨j+1,by omega,by go_num,Lh (by rw [HST.out]; exact S.out)⟩
             case measure=>simp [intOf]; omega
          ·have hltI:¬ (j:Int) < ng:=by omega
           obtain rfl:ng=j:=by omega
           have htk:s.pl.grp.take ng=s.pl.grp:=List.take_of_length_le (by rw [HNG.out]; omega);have HE:Hid (s.pl.grp.foldl Zbc FR0=Zdf (T s.pl.uses) vin cin k.vars nc s.pl):=Lh (by unfold Zdf; rw [HL.out.hn,HFR0.out]);rw [htk] at S;clear kp htk
           go_wp2_with fail
           go_end0
           exact ⟨rfl,S.out.bel,by rw [← HE.out]; exact S.out.fr,S.out.a1,S.out.a3⟩
end Go.Proofs.YtjndhfcfcedheaaGreatDoor
