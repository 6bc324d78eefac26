/- Texts that belong together: VX. -/
import Derived.Test.YtjndhfcfcedheaaGreatDoorHK20
set_option linter.unusedVariables false
set_option linter.unusedSimpArgs false
set_option maxRecDepth 100000
set_option maxHeartbeats 16000000
namespace Go.Proofs.YtjndhfcfcedheaaGreatDoor
open Go.RowKit
theorem Ziw:(Tryz.prog.info? 65).map (fun i=>(i.zero,i.size,i.bytes))=some (some (.agg #[.int .u8 0,.int .u8 0,.int .u8 0,.int .i32 0,.int .i64 0,.slice none 0 0]),6,40):=by kernel_rfl
def Zpc (p:KP) (w:World) (e:Ending) (w':World):Prop:=∃ v,e = .returned v∧Hid (w'.ownsRow w.heap.size 65 6 v (ZL p).length (ZgE (ZL p)))∧Hid (Below w.heap.size w w')
structure ExS (w:World) (cs:Array Value) (L:List KE) (v:Value) (wr:World):Prop where
 bel:Below w.heap.size w wr
 bx:Blk wr w.heap.size 31 cs
 ow:wr.ownsRow w.heap.size 65 6 v L.length (ZgE L)
theorem ExS.more {w wr w':World} {cs:Array Value} {L M:List KE} {v v':Value} (h:ExS w cs L v wr) (ho:w'.ownsRow w.heap.size 65 6 v' (L.length+M.length) (ZgE L++ZgE M)) (hg:wr.grownBy w' v.ownBlock) (hb:Below w.heap.size wr w'):ExS w cs (L++M) v' w' :=
 ⟨h.bel.trans hb,h.bx.grown hg (fun e=>Zg h.ow h.bx (by decide) e.symm),by rw [List.length_append,Zis]; exact ho⟩
theorem ExS.alloc {w wr:World} {cs:Array Value} {L:List KE} {v:Value} (h:ExS w cs L v wr) (o:Obj):ExS w cs L v (wr.alloc o):=⟨h.bel.alloc h.bel.size _,h.bx.alloc _,h.ow.alloc _⟩
theorem Zd8 {α β:Type} (f:α→List β) (l:List α) (k:Nat):((l.take k).flatMap f).length≤(l.flatMap f).length:=by
 conv=>rhs; rw [← List.take_append_drop k l]
 rw [List.flatMap_append,List.length_append]; omega
theorem ZnP (p:KP) (B:Nat) (w:World) (hin:p.In w B) (hB:B≤w.heap.size) (hsm:(ZL p).length≤1000000):Calls Tryz.prog 51 #[.agg p.cells] w (Zpc p w):=by
 obtain ⟨i0,hi0,hz0,hz1,hz2⟩:=info_parts Ziw
 obtain ⟨W0,hW0⟩:∃ W0,w.alloc (.cells p.cells 31)=W0:=⟨_,rfl⟩
 have S0:Hid (ExS w p.cells [] (.slice none 0 0) W0):=Lh (by rw [← hW0]; exact ⟨(Below.refl _ _).alloc (Nat.le_refl _) _,Blk.new _ _ _,World.ownsRow_nil _ _ _ _⟩);have HIN:=Lh hin;have HSM:Hid (p.e.length+(p.tos.flatMap fun t=>t.l).length+(p.g.flatMap Zaz).length≤1000000):=Lh (by unfold ZL at hsm; rwa [List.length_append,List.length_append] at hsm);have hl1:=hin.one.2.1.1;have hl3:=hin.one.1.2.2.2.2.1;have hle:=HSM.out;unfold ZB at hl1 hl3
 obtain ⟨nt,hnt⟩:∃ n,p.tos.length=n:=⟨_,rfl⟩
 obtain ⟨ne,hne⟩:∃ n,p.e.length=n:=⟨_,rfl⟩
 obtain ⟨ng,hng⟩:∃ n,p.g.length=n:=⟨_,rfl⟩
 have HNT:=Lh hnt;have HNE:=Lh hne;have HNG:=Lh hng;have hE:=HIN.out.one.2.2.1.2.1;rw [hne] at hE;have HE:=Lh (hE.below (S0.out.bel.mono hB))
 have hne6:ne≤1000000:=by omega
 simp only [KP.cells,hnt,hne,hng] at hW0 S0 ⊢;rw [hnt] at hl1;rw [hng] at hl3;clear hin hsm hnt hng hE hle;have b0:=S0.out.bx;have hlt:=b0.lt;have hsz:=S0.out.bel.size;obtain ⟨e0,e1,e2,e3,e4,e5,e6,e7⟩:=b0.c8;simp at e0 e1 e2 e3 e4 e5 e6 e7;clear b0;go_enter Tryz.func51,Tryz.ntmps51
 go_upto_region 2 with fail
 clear hW0
 go_upto_region 3 with (at_builtin; refine ZhV Tryz.underlying27 hi0 hz0 hz1 hz2 rfl (by decide) S0.out.ow hsz rfl (.tmp 7) (.tmp 9) rfl rfl p.Ae ne p.ce B (ZgE p.e) rfl HE.out Zg3 (by simp; omega) (by simp; omega) ?_
                        intro v5 w5 ho5 hg5 hb5 hat5;have S1:=Lh (S0.out.more (M:=p.e) (by rw [hne]; exact ho5) hg5 hb5)
                        clear ho5 hg5 hb5 hat5)
 clear e0 e1 e2 e3 e4 e5 e6 e7 hlt hsz;have b0:=S1.out.bx;have hlt:=b0.lt;obtain ⟨e0,e1,e2,e3,e4,e5,e6,e7⟩:=b0.c8;simp at e0 e1 e2 e3 e4 e5 e6 e7;clear b0
 go_wp2_with fail
 go_loopw [3,4] (fun v i wr=>∃ j:Nat,j≤nt∧i = .int .i64 j∧Hid (ExS w #[.int .u8 p.kind,.int .i64 p.c,.int .i64 p.v,.int .u8 p.item,.slice p.At nt p.ct,.slice p.Ae ne p.ce,.slice p.Ag ng p.cg,.slice p.Al p.l.length p.cl] (([]++p.e)++(p.tos.take j).flatMap fun t=>t.l) v wr)) (fun _ i _=>nt - (intOf i).toNat)
 case atStart=>exact ⟨0,Nat.zero_le _,rfl,Lh (by rw [List.take_zero,List.flatMap_nil,List.append_nil]; exact S1.out)⟩
 case round =>
  clear S0 S1 e0 e1 e2 e3 e4 e5 e6 e7 hlt;obtain ⟨j,hj,rfl,S⟩:=hrel
  obtain ⟨L,hL⟩:∃ L,([]++p.e)++((p.tos.take j).flatMap fun t=>t.l)=L:=⟨_,rfl⟩
  have HL:=Lh hL;rw [hL] at S;clear hL;obtain ⟨A,c,rfl⟩:=Zv S.out.ow;have b0:=S.out.bx;have hlt:=b0.lt;have hsz:=S.out.bel.size;obtain ⟨e0,e1,e2,e3,e4,e5,e6,e7⟩:=b0.c8;simp at e0 e1 e2 e3 e4 e5 e6 e7;clear b0
  by_cases hltj:j < nt
  ·have hltI:(j:Int) < nt:=by omega
   obtain ⟨b,off,x,hA,hb,hx,hxi,k0,k1⟩:=Zdc (HIN.out.below (S.out.bel.mono hB)).one.2.1 rfl (k:=j) (by rw [HNT.out]; exact hltj)
   have hbw:b < wr.heap.size:=by omega
   rw [hA] at e4
   have hbound:L.length+x.l.length≤1000000:=by
    have h1:=HSM.out;have h2:=Zd8 (fun t:KPl=>t.l) p.tos (j+1);rw [Zat _ hx,List.length_append] at h2;rw [← HL.out];simp only [List.nil_append,List.length_append]
    omega
   have HN:Hid (([]++p.e)++((p.tos.take (j+1)).flatMap fun t=>t.l)=L++x.l):=Lh (by rw [Zat _ hx,← List.append_assoc,HL.out]);have HXR:=Lh hxi.2.2.1;clear hx hxi hA
   go_upto_region 5 with (at_builtin; refine ZhV Tryz.underlying27 hi0 hz0 hz1 hz2 rfl (by decide) S.out.ow hsz rfl (.tmp 18) (.tmp 24) rfl rfl x.A x.l.length x.c B (ZgE x.l) rfl HXR.out Zg3 (by omega) (by omega) ?_
                          intro v5 w5 ho5 hg5 hb5 hat5;have S2:=Lh (S.out.more (M:=x.l) ho5 hg5 hb5)
                          clear ho5 hg5 hb5 hat5)
   go_wp2_with fail
   go_roundw
   case rel=>exact ⟨j+1,by omega,by go_num,Lh (by rw [HN.out]; exact S2.out)⟩
   case measure=>simp [intOf]; omega
  ·have hltI:¬ (j:Int) < nt:=by omega
   obtain rfl:nt=j:=by omega
   have htk:p.tos.take nt=p.tos:=List.take_of_length_le (by rw [HNT.out]; omega);rw [htk] at HL;clear htk
   obtain ⟨LT,hLT⟩:∃ l,p.tos.flatMap (fun t=>t.l)=l:=⟨_,rfl⟩
   have HLT:=Lh hLT;clear hLT
   go_wp2_with fail
   go_loopw [3,5] (fun v i wr=>∃ j:Nat,j≤ng∧i = .int .i64 j∧Hid (ExS w #[.int .u8 p.kind,.int .i64 p.c,.int .i64 p.v,.int .u8 p.item,.slice p.At nt p.ct,.slice p.Ae ne p.ce,.slice p.Ag ng p.cg,.slice p.Al p.l.length p.cl] (L++(p.g.take j).flatMap Zaz) v wr)) (fun _ i _=>ng - (intOf i).toNat)
   case atStart=>exact ⟨0,Nat.zero_le _,rfl,Lh (by rw [List.take_zero,List.flatMap_nil,List.append_nil]; exact S.out)⟩
   case round =>
    clear S e0 e1 e2 e3 e4 e5 e6 e7 hlt hsz;obtain ⟨j,hj,rfl,S⟩:=hrel
    obtain ⟨M,hM⟩:∃ M,L++(p.g.take j).flatMap Zaz=M:=⟨_,rfl⟩
    have HM:=Lh hM;rw [hM] at S;clear hM;obtain ⟨A,c,rfl⟩:=Zv S.out.ow;have b0:=S.out.bx;have hlt:=b0.lt;have hsz:=S.out.bel.size;obtain ⟨e0,e1,e2,e3,e4,e5,e6,e7⟩:=b0.c8;simp at e0 e1 e2 e3 e4 e5 e6 e7;clear b0
    by_cases hltj:j < ng
    ·have hltI:(j:Int) < ng:=by omega
     obtain ⟨b,off,g,hA,hb,hx,hmx,hG⟩:=Zb7 (HIN.out.below (S.out.bel.mono hB)).one.2.2.2.1.1 rfl (k:=j) (by rw [HNG.out]; exact hltj)
     have hbw:b < wr.heap.size:=by omega
     rw [hA] at e6;have hg1:=(HIN.out.below (S.out.bel.mono hB)).one.2.2.2.1.2 g hmx
     have hbound:M.length+(Zaz g).length≤1000000:=by
      have h1:=HSM.out;have h2:=Zd8 Zaz p.g (j+1);rw [Zat _ hx,List.length_append] at h2;rw [← HM.out,← HL.out];simp only [List.nil_append,List.length_append]
      omega
     have HN:Hid (L++(p.g.take (j+1)).flatMap Zaz=M++Zaz g):=Lh (by rw [Zat _ hx,← List.append_assoc,HM.out]);have HG1:=Lh hg1;have HMX:=Lh hmx;have HG:=Lh hG
     have hgl:1+g.dst.l.length≤(Zaz g).length:=by unfold Zaz; simp only [List.length_append,List.length_singleton]; omega
     have hk8:=hg1.1.1;have S2:=Lh (S.out.alloc (.cells g.flat 109));have bx:=Blk.new wr 109 g.flat;have HB2:=Lh bx;clear hx hmx hA hg1 hG bx
     go_upto_region 11 with (first
      | (refine Zaf rfl _ rfl (b:=b) (o:=off+j * 18) rfl HG.out ?_)
      | (refine Z9 rfl _ _ rfl (w:=wr) (g:=g) rfl rfl ?_))
     generalize wr.alloc _=w2 at *;simp only [KG.flat] at HB2;clear e0 e1 e2 e3 e4 e5 e6 e7 HG S hbw hb;have bx:=HB2.out;have hxw:=bx.lt;have d0:=bx.cell 0;have d1:=bx.cell 1;have d2:=bx.cell 2;have d3:=bx.cell 3;have d4:=bx.cell 4;have d5:=bx.cell 5;have d6:=bx.cell 6;have d7:=bx.cell 7;have d8:=bx.cell 8;have d9:=bx.cell 9;have d10:=bx.cell 10;have d11:=bx.cell 11;have d12:=bx.cell 12;have d13:=bx.cell 13;have d14:=bx.cell 14;have d15:=bx.cell 15;have d16:=bx.cell 16;have d17:=bx.cell 17;simp at d0 d1 d2 d3 d4 d5 d6 d7 d8 d9 d10 d11 d12 d13 d14 d15 d16 d17;clear bx;have hsz2:=S2.out.bel.size;have S3:=Lh (ExS.alloc (wr:=w2.drew) ⟨S2.out.bel.drew,S2.out.bx,S2.out.ow⟩ (.cells #[.int .u8 g.cond.kind,.int .u8 g.cond.oper,.int .u8 g.cond.tk,.int .i32 g.cond.n,.int .i64 g.cond.v,.slice g.cond.A g.cond.l.length g.cond.c] 65));have hsz3:=S3.out.bel.size
     have hone:∀ u∈(#[.int .u8 g.cond.kind,.int .u8 g.cond.oper,.int .u8 g.cond.tk,.int .i32 g.cond.n,.int .i64 g.cond.v,.slice g.cond.A g.cond.l.length g.cond.c]:Array Value).toList,u.oneCell'=true:=by simp [Value.oneCell']
     go_region_law (first
      | (refine Zc4 Tryz.underlying27 hi0 hz0 hz1 hz2 rfl (by decide) S3.out.ow hsz3 rfl (.tmp 38) (.tmp 41) rfl rfl w2.heap.size 1 1 #[.int .u8 g.cond.kind,.int .u8 g.cond.oper,.int .u8 g.cond.tk,.int .i32 g.cond.n,.int .i64 g.cond.v,.slice g.cond.A g.cond.l.length g.cond.c] rfl (Blk.new w2.drew _ _) rfl hone (by omega) (by omega) ?_
         intro v6 w6 ho6 hg6 hb6 hat6;have S4:=Lh (S3.out.more (M:=[g.cond]) (by simpa [ZgE,KE.cells] using ho6) hg6 hb6);have hsz6:=S4.out.bel.size;have bb:=(HB2.out.drew.alloc (.cells #[.int .u8 g.cond.kind,.int .u8 g.cond.oper,.int .u8 g.cond.tk,.int .i32 g.cond.n,.int .i64 g.cond.v,.slice g.cond.A g.cond.l.length g.cond.c] 65)).grown hg6 (fun e=>Zg S3.out.ow (HB2.out.drew.alloc _) (by decide) e.symm);have hlb6:=bb.lt;have HB6:=Lh bb;have q10:=bb.cell 10;simp at q10
         clear bb ho6 hg6 hb6 hat6)
      | (refine Zgh Tryz.underlying27 hi0 hz0 hz1 hz2 rfl (by decide) S4.out.ow hsz6 rfl (.tmp 42) (.tmp 45) rfl rfl g.dst.A g.dst.l.length g.dst.c B (ZgE g.dst.l) rfl ((HIN.out.below (S4.out.bel.mono hB)).one.2.2.2.1.2 g HMX.out).2.2.1.2.2.1 Zg3 (by simp; omega) (by simp; omega) ?_
         intro v7 w7 ho7 hg7 hb7 hat7;have S5:=Lh (S4.out.more (M:=g.dst.l) ho7 hg7 hb7);have bb:=HB6.out.grown hg7 (fun e=>Zg S4.out.ow HB6.out (by decide) e.symm);have HB7:=Lh bb;have hsz7:=S5.out.bel.size
         clear bb ho7 hg7 hb7 hat7))
     all_goals
      obtain ⟨A7,c7,rfl⟩:=Zv S5.out.ow
      obtain ⟨m7,hm7⟩:∃ m,(M++[g.cond]++g.dst.l).length=m:=⟨_,rfl⟩
      have HM7:=Lh hm7
      have hm7b:m7≤M.length+1+g.dst.l.length:=by rw [← hm7]; simp; omega
      rw [hm7] at S5 ⊢;clear hm7;have bb:=HB7.out;have hlb7:=bb.lt;clear d0 d1 d2 d3 d4 d5 d6 d7 d8 d9 d10 d11 d12 d13 d14 d15 d16 d17 q10;have d0:=bb.cell 0;have d1:=bb.cell 1;have d2:=bb.cell 2;have d3:=bb.cell 3;have d4:=bb.cell 4;have d5:=bb.cell 5;have d6:=bb.cell 6;have d7:=bb.cell 7;have d8:=bb.cell 8;have d9:=bb.cell 9;have d10:=bb.cell 10;have d11:=bb.cell 11;have d12:=bb.cell 12;have d13:=bb.cell 13;have d14:=bb.cell 14;have d15:=bb.cell 15;have d16:=bb.cell 16;have d17:=bb.cell 17;simp at d0 d1 d2 d3 d4 d5 d6 d7 d8 d9 d10 d11 d12 d13 d14 d15 d16 d17;clear bb
      by_cases hk4:g.kind=4
      ·have y4:((g.kind:Int) == 4)=true:=by simp [hk4]
       have HEG:Hid (Zaz g=[g.cond]++g.dst.l++[g.time]):=Lh (by unfold Zaz; rw [if_pos hk4])
       have hgl2:2+g.dst.l.length≤(Zaz g).length:=by rw [HEG.out]; simp; omega
       have S6:=Lh (S5.out.alloc (.cells #[.int .u8 g.time.kind,.int .u8 g.time.oper,.int .u8 g.time.tk,.int .i32 g.time.n,.int .i64 g.time.v,.slice g.time.A g.time.l.length g.time.c] 65));have HO6:=Lh (by have h:=S6.out.ow; rw [HM7.out] at h; exact h);have hsz8:=S6.out.bel.size
       have hone2:∀ u∈(#[.int .u8 g.time.kind,.int .u8 g.time.oper,.int .u8 g.time.tk,.int .i32 g.time.n,.int .i64 g.time.v,.slice g.time.A g.time.l.length g.time.c]:Array Value).toList,u.oneCell'=true:=by simp [Value.oneCell']
       clear hk4
       go_upto_region 9 with (at_builtin; refine Zcb Tryz.underlying27 hi0 hz0 hz1 hz2 rfl (by decide) HO6.out hsz8 rfl (.tmp 50) (.tmp 53) rfl rfl w7.heap.size 1 1 #[.int .u8 g.time.kind,.int .u8 g.time.oper,.int .u8 g.time.tk,.int .i32 g.time.n,.int .i64 g.time.v,.slice g.time.A g.time.l.length g.time.c] rfl (Blk.new w7 _ _) rfl hone2 (by omega) (by omega) ?_
                              intro v9 w9 ho9 hg9 hb9 hat9;have S9:=Lh (S6.out.more (M:=[g.time]) (by rw [HM7.out]; simpa [ZgE,KE.cells] using ho9) hg9 hb9)
                              clear ho9 hg9 hb9 hat9)
       go_wp2_with fail
       go_roundw
       case rel=>exact ⟨j+1,by omega,by go_num,Lh (by rw [HN.out,HEG.out,← List.append_assoc,← List.append_assoc]; exact S9.out)⟩
       case measure=>simp [intOf]; omega
      ·have y4:((g.kind:Int) == 4)=false:=by simp; omega
       have HEG:Hid (Zaz g=[g.cond]++g.dst.l):=Lh (by unfold Zaz; rw [if_neg hk4,List.append_nil]);clear hk4
       go_wp2_with fail
       go_roundw
       case rel=>exact ⟨j+1,by omega,by go_num,Lh (by rw [HN.out,HEG.out,← List.append_assoc]; exact S5.out)⟩
       case measure=>simp [intOf]; omega
    ·have hltI:¬ (j:Int) < ng:=by omega
     obtain rfl:ng=j:=by omega
     have htk:p.g.take ng=p.g:=List.take_of_length_le (by rw [HNG.out]; omega);have HE2:Hid (ZL p=M):=Lh (by rw [← HM.out,htk,← HL.out]; unfold ZL; simp [List.append_assoc]);clear htk
     go_wp2_with fail
     go_ret;exact ⟨_,rfl,Lh (by rw [HE2.out]; exact S.out.ow),Lh S.out.bel⟩
end Go.Proofs.YtjndhfcfcedheaaGreatDoor
