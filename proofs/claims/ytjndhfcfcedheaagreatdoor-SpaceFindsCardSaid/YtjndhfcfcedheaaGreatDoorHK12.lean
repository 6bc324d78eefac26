/- Texts that belong together: CM. -/
import Derived.Test.YtjndhfcfcedheaaGreatDoorHK11
set_option linter.unusedVariables false
set_option linter.unusedSimpArgs false
set_option maxRecDepth 100000
set_option maxHeartbeats 16000000
namespace Go.Proofs.YtjndhfcfcedheaaGreatDoor
open Go.RowKit
theorem Blk.need {W:World} {g t:Nat} {z:Array Value} (h:Blk W g t z) (hz:z.size=4) (x0 x1 x2 x3:Value) :
  Blk ((((W.setCell ⟨g,0,none⟩ x0).setCell ⟨g,1,none⟩ x1).setCell ⟨g,2,none⟩ x2).setCell ⟨g,3,none⟩ x3) g t #[x0,x1,x2,x3]:=by
 have h1:=(((h.set_ 0 x0).set_ 1 x1).set_ 2 x2).set_ 3 x3;obtain ⟨l⟩:=z
 match l,hz with
 | [a,b,c,d],_=>exact h1
theorem Below.need {W w:World} {B g:Nat} (h:Below B w W) (hg:B≤g) (x0 x1 x2 x3:Value) :
  Below B w ((((W.setCell ⟨g,0,none⟩ x0).setCell ⟨g,1,none⟩ x1).setCell ⟨g,2,none⟩ x2).setCell ⟨g,3,none⟩ x3):=(((h.setCell hg _).setCell hg _).setCell hg _).setCell hg _
theorem Zap (w:World) (o o':Obj) (t:TypeId) (cs:Array Value):Blk (((w.alloc o).alloc o').alloc (.cells cs t)) (w.heap.size+1+1) t cs:=by
 have:=Z5 (w.alloc o) o' t cs
 simpa using this
theorem Zqj (e:KE) (a b:ZdF) (ha:1≤a.regs∧a.regs≤3∧a.temps≤1000) (hb:1≤b.regs∧b.regs≤3∧b.temps≤1000) (ho:e.oper < 27) (A:Option Addr) (c:Nat) (w:World) (hr:Zo w w.heap.size 4 A 2 (Zgz [a,b])) (hq:ZP w) :
  Calls Tryz.prog 61 #[.agg e.cells,.slice A 2 c] w (Zu (.agg (ZfN e.kind e.oper e.tk [a,b]).cells) w):=by
 obtain ⟨bb,off,rfl,hbb,hc⟩:=hr.addr (by omega) (by omega);have r0:=hc 0 _ rfl;have r1:=hc 1 _ rfl;have r2:=hc 2 _ rfl;have r3:=hc 3 _ rfl;have r4:=hc 4 _ rfl;have r5:=hc 5 _ rfl;have r6:=hc 6 _ rfl;have r7:=hc 7 _ rfl;rw [Nat.add_zero] at r0;clear hc hr;obtain ⟨aok,asafe,aregs,atemps⟩:=a;obtain ⟨bok,bsafe,bregs,btemps⟩:=b;obtain ⟨k,o,t,num,v,A',c',l⟩:=e;simp only [KE.cells]
 simp only at ha hb ho r0 r1 r2 r3 r4 r5 r6 r7
 obtain ⟨R,hR⟩:∃ R,ZfN k o t [⟨aok,asafe,aregs,atemps⟩,⟨bok,bsafe,bregs,btemps⟩]=R:=⟨_,rfl⟩
 simp only [hR]
 have HRJ:Hid (R=if o=20∨o=21∨aregs≠bregs then ⟨true,asafe && bsafe && Zbp o,max aregs bregs,max atemps btemps⟩
  else if aregs < 3 then ⟨true,asafe && bsafe && Zbp o,max aregs bregs+1,max atemps btemps⟩
  else ⟨true,asafe && bsafe && Zbp o,max aregs bregs,max btemps (atemps+1)⟩):=Lh (by rw [← hR]; rfl)
 clear hR;simp only [ZdF.cells]
 obtain ⟨W1,hW1⟩:∃ W,(w.alloc (.cells #[.int .u8 k,.int .u8 o,.int .u8 t,.int .i32 num,.int .i64 v,.slice A' l.length c'] 65)).alloc (.cells ZaU 102)=W:=⟨_,rfl⟩
 obtain ⟨y1,y2,y3⟩:=Zf8 w #[.int .u8 k,.int .u8 o,.int .u8 t,.int .i32 num,.int .i64 v,.slice A' l.length c'] ZaU 65 102;rw [hW1] at y1 y2 y3;have HK1:=Lh y1;have HYE:=Lh y2;have HYD:=Lh y3;have HQ1:Hid (ZP W1):=Lh (hq.below y1 hq.lt);have HHO:=Lh ho
 have hq0:=(HQ1.out.cell ho)
 have hql:Zae < W1.heap.size:=HQ1.out.lt;simp only [Zae] at hq0 hql;generalize hqb:Zbp o=qb at *;simp only [ZaU] at y3 hW1;obtain ⟨e0,e1,e2,e3,e4,e5⟩:=y2.c6;simp at e0 e1 e2 e3 e4 e5;have z2:=y2.lt;have z3:=y3.lt;have hbW:bb < W1.heap.size:=Nat.lt_of_lt_of_le hbb y1.size;have q0:=(ZbT y1).1 bb off hbb |>.trans r0;have q1:=(ZbT y1).1 bb (off+1) hbb |>.trans r1;have q2:=(ZbT y1).1 bb (off+2) hbb |>.trans r2;have q3:=(ZbT y1).1 bb (off+3) hbb |>.trans r3;have q4:=(ZbT y1).1 bb (off+4) hbb |>.trans r4;have q5:=(ZbT y1).1 bb (off+5) hbb |>.trans r5;have q6:=(ZbT y1).1 bb (off+6) hbb |>.trans r6;have q7:=(ZbT y1).1 bb (off+7) hbb |>.trans r7;clear y1 y2 y3 hq r0 r1 r2 r3 r4 r5 r6 r7 ho
 have hwW:w.heap.size≤W1.heap.size:=by omega
 go_enter Tryz.func61,Tryz.ntmps61
 go_upto_region 11 with fail
 go_cut [7,8] (fun s7 s8 wx=>∃ g h:Nat,s7 = .pointer (some ⟨g,0,none⟩)∧s8 = .pointer (some ⟨h,0,none⟩)∧Hid (W1.heap.size≤g∧W1.heap.size≤h)∧Hid (Below W1.heap.size W1 wx)∧Hid (Blk wx g 102 #[.bool aok,.bool asafe,.int .i64 aregs,.int .i64 atemps])∧Hid (Blk wx h 102 #[.bool bok,.bool bsafe,.int .i64 bregs,.int .i64 btemps]))
 case first =>
  go_region_held3 (fun w'=>W1.heap.size≤w'.heap.size∧∀ b o,b < W1.heap.size→w'.cell? ⟨b,o,none⟩=W1.cell? ⟨b,o,none⟩) (first | (repeat' (first | exact Zi.drew | refine Zi.alloc ?_ _ | refine Zi.set ?_ (by simp) _))) (first | fail)
  ·go_wp2
   go_meet;exact ⟨_,_,rfl,rfl,Lh ⟨Nat.le_refl _,Nat.le_succ _⟩,Lh (ZeP W1 _ _).drew,Lh ((Blk.new W1 _ _).alloc _).drew,Lh (Z5 W1 _ _ _).drew⟩
  ·go_wp2
   go_meet;exact ⟨_,_,rfl,rfl,Lh ⟨Nat.le_succ _,Nat.le_refl _⟩,Lh (ZeP W1 _ _).drew,Lh (Z5 W1 _ _ _).drew,Lh ((Blk.new W1 _ _).alloc _).drew⟩
 obtain ⟨g,h,rfl,rfl,HG,HB,HA,HH⟩:=hcut
 have HT:Hid (∀ (x y:Nat) (p:Nat) (w':World),y≤100000→Blk w' p 3 #[.int .i64 y]→Calls Tryz.prog 78 #[.int .i64 x,.slice (some ⟨p,0,none⟩) 1 1] w' (ZqS (.int .i64 ((max x y:Nat):Int)) w')):=Lh fun x y p w' hy hp=>by
  have hin:Zbf w' (p+1) (some ⟨p,0,none⟩) [(y:Int)]:=by
   refine ⟨by simp [ZB],⟨by simp [ZO],fun _=>⟨_,rfl,by simp,fun j u hu=>?_⟩⟩,?_⟩
   ·have hj:j=0:=by have:=(List.getElem?_eq_some_iff.1 hu).1; simp [ZO] at this; omega
    subst hj;rw [Addr.add_lit,hp.cell]
    simpa [ZO] using hu
   ·intro v hv; simp at hv; subst hv; unfold Zy; omega
  have h1:=dTop x (some ⟨p,0,none⟩) 1 [(y:Int)] _ _ hin
  have h2:Zjx (x:Int) [(y:Int)]=((max x y:Nat):Int):=by simp [Zjx]; omega
  rw [h2] at h1;exact h1
 have a1:=(ZbT HB.out).1;have e0':=(a1 _ 0 z2).trans e0;have e1':=(a1 _ 1 z2).trans e1;have hq0':=(a1 _ _ hql).trans hq0;have hbs:=HB.out.size;have ga:=HA.out;have gb:=HH.out;obtain ⟨c0,c1,c2,c3⟩:=ga.c4;simp at c0 c1 c2 c3;obtain ⟨d0,d1,d2,d3⟩:=gb.c4;simp at d0 d1 d2 d3;have gl:=ga.lt;have hl:=gb.lt;clear ga gb a1 e0 e1 e2 e3 e4 e5 hq0 q0 q1 q2 q3 q4 q5 q6 q7 hW1
 go_upto_region 12 with fail
 obtain ⟨W2,hW2⟩:∃ W,wc=W:=⟨_,rfl⟩
 simp only [hW2] at *
 have z2':w.heap.size < W2.heap.size:=by omega
 have z3':w.heap.size+1 < W2.heap.size:=by omega
 have hql':0 < W2.heap.size:=by omega
 have hoI:(o:Int) < 27:=by have:=HHO.out; omega
 go_cut [9] (fun s9 wx=>∃ q:Nat,s9 = .pointer (some ⟨q,0,none⟩)∧Hid (W2.heap.size≤q)∧Hid (Below W2.heap.size W2 wx)∧Hid (Blk wx q 102 #[.bool true,.bool (asafe && bsafe && qb),.int .i64 (max aregs bregs:Nat),.int .i64 (max atemps btemps:Nat)]))
 case first =>
  refine ZaV (fun w'=>W2.heap.size≤w'.heap.size∧∀ b o,b < W2.heap.size→w'.cell? ⟨b,o,none⟩=W2.cell? ⟨b,o,none⟩) [0,1,2,3,4,5,6,7,8,9,10,11,12,13,14,15,18,19,20,21] 7 (listed:=#[true,true,true,true,true,true,true,true,true,true,true,true,true,true,true,true,false,false,true,true,true,true,false,false,false,false,false]) (by kernel_rfl) (by kernel_rfl) (by kernel_rfl) (by kernel_rfl) (by kernel_rfl) (fun _ _ d _ _ h=>by cases d <;> exact h) Zi.drew (fun R hR=>?_);simp only [List.filterMap_cons,List.filterMap_nil,List.getElem?_toArray,List.getElem?_cons_succ,List.getElem?_cons_zero]
  iterate 3
   refine Zc (v:=?_) rfl (fun w hSw=>?_) ?_
   rotate_left
   ·(try dsimp only at hSw); go_simp; all_goals with_reducible rfl
   (try simp only [Act.put,qA,qB,qC])
  refine Zbi (if asafe then .pointer (some ⟨h,1,none⟩) else undef) (by cases asafe <;> cases bsafe <;> first | exact Or.inr ⟨rfl,rfl⟩ | (refine Or.inl ⟨rfl,?_⟩; intro w hSw; (try dsimp only at hSw); go_simp)) ?_
  (try simp only [Act.put,qA,qB,qC])
  refine Zbi (if asafe then .bool bsafe else undef) (by cases asafe <;> cases bsafe <;> first | exact Or.inr ⟨rfl,rfl⟩ | (refine Or.inl ⟨rfl,?_⟩; intro w hSw; (try dsimp only at hSw); go_simp)) ?_
  iterate 2
   (try simp only [Act.put,qA,qB,qC])
   refine Zbi (.bool (asafe && bsafe)) (by cases asafe <;> cases bsafe <;> first | exact Or.inr ⟨rfl,rfl⟩ | (refine Or.inl ⟨rfl,?_⟩; intro w hSw; (try dsimp only at hSw); go_simp)) ?_
  (try simp only [Act.put,qA,qB,qC])
  refine Zbi (if (asafe && bsafe) then .pointer (some ⟨w.heap.size,1,none⟩) else undef) (by cases asafe <;> cases bsafe <;> first | exact Or.inr ⟨rfl,rfl⟩ | (refine Or.inl ⟨rfl,?_⟩; intro w hSw; (try dsimp only at hSw); go_simp)) ?_
  (try simp only [Act.put,qA,qB,qC])
  refine Zbi (if (asafe && bsafe) then .int .u8 o else undef) (by cases asafe <;> cases bsafe <;> first | exact Or.inr ⟨rfl,rfl⟩ | (refine Or.inl ⟨rfl,?_⟩; intro w hSw; (try dsimp only at hSw); go_simp)) ?_
  (try simp only [Act.put,qA,qB,qC])
  refine Zbi (if (asafe && bsafe) then .pointer (some ⟨0,o,none⟩) else undef) (by cases asafe <;> cases bsafe <;> first | exact Or.inr ⟨rfl,rfl⟩ | (refine Or.inl ⟨rfl,?_⟩; intro w hSw; (try dsimp only at hSw); go_simp)) ?_
  (try simp only [Act.put,qA,qB,qC])
  refine Zbi (if (asafe && bsafe) then .bool qb else undef) (by cases asafe <;> cases bsafe <;> first | exact Or.inr ⟨rfl,rfl⟩ | (refine Or.inl ⟨rfl,?_⟩; intro w hSw; (try dsimp only at hSw); go_simp)) ?_
  (try simp only [Act.put,qA,qB,qC])
  refine Zbi (.bool (asafe && bsafe && qb)) (by cases asafe <;> cases bsafe <;> first | exact Or.inr ⟨rfl,rfl⟩ | (refine Or.inl ⟨rfl,?_⟩; intro w hSw; (try dsimp only at hSw); go_simp)) ?_
  iterate 8
   (try simp only [Act.put,qA,qB,qC])
   refine Zc (v:=?_) rfl (fun w hSw=>?_) ?_
   rotate_left
   ·(try dsimp only at hSw); go_simp; all_goals with_reducible rfl
  (try simp only [Act.put,qA,qB,qC])
  refine Zco (hR _ ?_);clear hR R;generalize (if asafe=true then .pointer (some ⟨h,1,none⟩) else undef:Value)=xx0;generalize (if asafe=true then .bool bsafe else undef:Value)=xx1;generalize (if (asafe && bsafe)=true then .pointer (some ⟨w.heap.size,1,none⟩) else undef:Value)=xx2;generalize (if (asafe && bsafe)=true then .int .u8 o else undef:Value)=xx3;generalize (if (asafe && bsafe)=true then .pointer (some ⟨0,o,none⟩) else undef:Value)=xx4;generalize (if (asafe && bsafe)=true then .bool qb else undef:Value)=xx5;refine wpAnyH_ready (rs:=[16,22,25]) (by kernel_rfl) (by simp) ?_;refine .cons rfl (fun K hK=>?_) ?_
  ·go_simp
   refine hK.out _ _ ?_ (fun hHeld=>?_)
   ·(try dsimp only); (repeat' (first | exact Zi.drew | refine Zi.alloc ?_ _ | refine Zi.set ?_ (by simp) _))
   clear hK K
   (try simp only [Act.put,qA,qB,qC])
   refine wpAnyH_ready (rs:=[17,22,25]) (by kernel_rfl) (by simp) ?_;refine .cons rfl (fun K hK=>?_) ?_
   ·go_simp
    (go_at_call 78; (with_reducible refine (HT.out aregs bregs _ _ (by omega) ?_).mono ?_))
    ·(repeat (first | refine Blk.drew ?_ | exact Blk.new _ _ _ | exact Z5 _ _ _ _ | exact Zap _ _ _ _ _ | refine Blk.alloc ?_ _))
    rintro e w1 ⟨rfl,rfl⟩
    go_wp2_with fail
    refine hK.out _ _ ?_ (fun hHeld=>?_)
    ·(try dsimp only); (repeat' (first | exact Zi.drew | refine Zi.alloc ?_ _ | refine Zi.set ?_ (by simp) _))
    clear hK K
    (try simp only [Act.put,qA,qB,qC])
    refine wpAnyH_ready (rs:=[22,25]) (by kernel_rfl) (by simp) ?_;refine .cons rfl (fun K hK=>?_) ?_
    ·go_simp
     refine hK.out _ _ ?_ (fun hHeld=>?_)
     ·(try dsimp only); (repeat' (first | exact Zi.drew | refine Zi.alloc ?_ _ | refine Zi.set ?_ (by simp) _))
     clear hK K
     (try simp only [Act.put,qA,qB,qC])
     refine wpAnyH_ready (rs:=[23,25]) (by kernel_rfl) (by simp) ?_;refine .cons rfl (fun K hK=>?_) ?_
     ·go_simp
      (go_at_call 78; (with_reducible refine (HT.out atemps btemps _ _ (by omega) ?_).mono ?_))
      ·(repeat (first | refine Blk.drew ?_ | exact Blk.new _ _ _ | exact Z5 _ _ _ _ | exact Zap _ _ _ _ _ | refine Blk.alloc ?_ _))
      rintro e w1 ⟨rfl,rfl⟩
      go_wp2_with fail
      refine hK.out _ _ ?_ (fun hHeld=>?_)
      ·(try dsimp only); (repeat' (first | exact Zi.drew | refine Zi.alloc ?_ _ | refine Zi.set ?_ (by simp) _))
      clear hK K
      (try simp only [Act.put,qA,qB,qC])
      refine wpAnyH_ready (rs:=[24,25]) (by kernel_rfl) (by simp) ?_;refine .cons rfl (fun K hK=>?_) ?_
      ·go_simp
       refine hK.out _ _ ?_ (fun hHeld=>?_)
       ·(try dsimp only); (repeat' (first | exact Zi.drew | refine Zi.alloc ?_ _ | refine Zi.set ?_ (by simp) _))
       clear hK K
       (try simp only [Act.put,qA,qB,qC])
       refine wpAnyH_ready (rs:=[25]) (by kernel_rfl) (by simp) ?_;refine .cons rfl (fun K hK=>?_) ?_
       ·go_simp
        refine hK.out _ _ ?_ (fun hHeld=>?_)
        ·(try dsimp only); (repeat' (first | exact Zi.drew | refine Zi.alloc ?_ _ | refine Zi.set ?_ (by simp) _))
        clear hK K
        (try simp only [Act.put,qA,qB,qC])
        refine wpAnyH_ready (rs:=[26]) (by kernel_rfl) (by simp) ?_;refine .cons rfl (fun K hK=>?_) ?_
        ·go_simp
         refine hK.out _ _ ?_ (fun hHeld=>?_)
         ·(try dsimp only); (repeat' (first | exact Zi.drew | refine Zi.alloc ?_ _ | refine Zi.set ?_ (by simp) _))
         clear hK K
         (try simp only [Act.put,qA,qB,qC])
         refine wpAnyH_done (by kernel_rfl) ?_ _
         go_wp2
         go_meet;exact ⟨_,rfl,Lh (by omega),Lh (by repeat (first | exact Below.refl _ _ | refine Below.drew ?_ | refine Below.alloc ?_ (by first | (simp; done) | (simp; omega)) _)),Lh (by repeat (first | refine Blk.drew ?_ | exact Blk.new _ _ _ | exact Z5 _ _ _ _ | exact Zap _ _ _ _ _ | refine Blk.alloc ?_ _))⟩
        exact .nil
       exact .nil
      refine .cons rfl (fun K hK=>?_) ?_
      ·go_simp
       refine hK.out _ _ ?_ (fun hHeld=>?_)
       ·(try dsimp only); (repeat' (first | exact Zi.drew | refine Zi.alloc ?_ _ | refine Zi.set ?_ (by simp) _))
       clear hK K
       (try simp only [Act.put,qA,qB,qC])
       refine wpAnyH_ready (rs:=[24]) (by kernel_rfl) (by simp) ?_;refine .cons rfl (fun K hK=>?_) ?_
       ·go_simp
        refine hK.out _ _ ?_ (fun hHeld=>?_)
        ·(try dsimp only); (repeat' (first | exact Zi.drew | refine Zi.alloc ?_ _ | refine Zi.set ?_ (by simp) _))
        clear hK K
        (try simp only [Act.put,qA,qB,qC])
        refine wpAnyH_ready (rs:=[26]) (by kernel_rfl) (by simp) ?_;refine .cons rfl (fun K hK=>?_) ?_
        ·go_simp
         refine hK.out _ _ ?_ (fun hHeld=>?_)
         ·(try dsimp only); (repeat' (first | exact Zi.drew | refine Zi.alloc ?_ _ | refine Zi.set ?_ (by simp) _))
         clear hK K
         (try simp only [Act.put,qA,qB,qC])
         refine wpAnyH_done (by kernel_rfl) ?_ _
         go_wp2
         go_meet;exact ⟨_,rfl,Lh (by omega),Lh (by repeat (first | exact Below.refl _ _ | refine Below.drew ?_ | refine Below.alloc ?_ (by first | (simp; done) | (simp; omega)) _)),Lh (by repeat (first | refine Blk.drew ?_ | exact Blk.new _ _ _ | exact Z5 _ _ _ _ | exact Zap _ _ _ _ _ | refine Blk.alloc ?_ _))⟩
        exact .nil
       exact .nil
      exact .nil
     refine .cons rfl (fun K hK=>?_) ?_
     ·go_simp
      refine hK.out _ _ ?_ (fun hHeld=>?_)
      ·(try dsimp only); (repeat' (first | exact Zi.drew | refine Zi.alloc ?_ _ | refine Zi.set ?_ (by simp) _))
      clear hK K
      (try simp only [Act.put,qA,qB,qC])
      refine wpAnyH_ready (rs:=[23]) (by kernel_rfl) (by simp) ?_;refine .cons rfl (fun K hK=>?_) ?_
      ·go_simp
       (go_at_call 78; (with_reducible refine (HT.out atemps btemps _ _ (by omega) ?_).mono ?_))
       ·(repeat (first | refine Blk.drew ?_ | exact Blk.new _ _ _ | exact Z5 _ _ _ _ | exact Zap _ _ _ _ _ | refine Blk.alloc ?_ _))
       rintro e w1 ⟨rfl,rfl⟩
       go_wp2_with fail
       refine hK.out _ _ ?_ (fun hHeld=>?_)
       ·(try dsimp only); (repeat' (first | exact Zi.drew | refine Zi.alloc ?_ _ | refine Zi.set ?_ (by simp) _))
       clear hK K
       (try simp only [Act.put,qA,qB,qC])
       refine wpAnyH_ready (rs:=[24]) (by kernel_rfl) (by simp) ?_;refine .cons rfl (fun K hK=>?_) ?_
       ·go_simp
        refine hK.out _ _ ?_ (fun hHeld=>?_)
        ·(try dsimp only); (repeat' (first | exact Zi.drew | refine Zi.alloc ?_ _ | refine Zi.set ?_ (by simp) _))
        clear hK K
        (try simp only [Act.put,qA,qB,qC])
        refine wpAnyH_ready (rs:=[26]) (by kernel_rfl) (by simp) ?_;refine .cons rfl (fun K hK=>?_) ?_
        ·go_simp
         refine hK.out _ _ ?_ (fun hHeld=>?_)
         ·(try dsimp only); (repeat' (first | exact Zi.drew | refine Zi.alloc ?_ _ | refine Zi.set ?_ (by simp) _))
         clear hK K
         (try simp only [Act.put,qA,qB,qC])
         refine wpAnyH_done (by kernel_rfl) ?_ _
         go_wp2
         go_meet;exact ⟨_,rfl,Lh (by omega),Lh (by repeat (first | exact Below.refl _ _ | refine Below.drew ?_ | refine Below.alloc ?_ (by first | (simp; done) | (simp; omega)) _)),Lh (by repeat (first | refine Blk.drew ?_ | exact Blk.new _ _ _ | exact Z5 _ _ _ _ | exact Zap _ _ _ _ _ | refine Blk.alloc ?_ _))⟩
        exact .nil
       exact .nil
      exact .nil
     exact .nil
    refine .cons rfl (fun K hK=>?_) ?_
    ·go_simp
     refine hK.out _ _ ?_ (fun hHeld=>?_)
     ·(try dsimp only); (repeat' (first | exact Zi.drew | refine Zi.alloc ?_ _ | refine Zi.set ?_ (by simp) _))
     clear hK K
     (try simp only [Act.put,qA,qB,qC])
     refine wpAnyH_ready (rs:=[22]) (by kernel_rfl) (by simp) ?_;refine .cons rfl (fun K hK=>?_) ?_
     ·go_simp
      refine hK.out _ _ ?_ (fun hHeld=>?_)
      ·(try dsimp only); (repeat' (first | exact Zi.drew | refine Zi.alloc ?_ _ | refine Zi.set ?_ (by simp) _))
      clear hK K
      (try simp only [Act.put,qA,qB,qC])
      refine wpAnyH_ready (rs:=[23]) (by kernel_rfl) (by simp) ?_;refine .cons rfl (fun K hK=>?_) ?_
      ·go_simp
       (go_at_call 78; (with_reducible refine (HT.out atemps btemps _ _ (by omega) ?_).mono ?_))
       ·(repeat (first | refine Blk.drew ?_ | exact Blk.new _ _ _ | exact Z5 _ _ _ _ | exact Zap _ _ _ _ _ | refine Blk.alloc ?_ _))
       rintro e w1 ⟨rfl,rfl⟩
       go_wp2_with fail
       refine hK.out _ _ ?_ (fun hHeld=>?_)
       ·(try dsimp only); (repeat' (first | exact Zi.drew | refine Zi.alloc ?_ _ | refine Zi.set ?_ (by simp) _))
       clear hK K
       (try simp only [Act.put,qA,qB,qC])
       refine wpAnyH_ready (rs:=[24]) (by kernel_rfl) (by simp) ?_;refine .cons rfl (fun K hK=>?_) ?_
       ·go_simp
        refine hK.out _ _ ?_ (fun hHeld=>?_)
        ·(try dsimp only); (repeat' (first | exact Zi.drew | refine Zi.alloc ?_ _ | refine Zi.set ?_ (by simp) _))
        clear hK K
        (try simp only [Act.put,qA,qB,qC])
        refine wpAnyH_ready (rs:=[26]) (by kernel_rfl) (by simp) ?_;refine .cons rfl (fun K hK=>?_) ?_
        ·go_simp
         refine hK.out _ _ ?_ (fun hHeld=>?_)
         ·(try dsimp only); (repeat' (first | exact Zi.drew | refine Zi.alloc ?_ _ | refine Zi.set ?_ (by simp) _))
         clear hK K
         (try simp only [Act.put,qA,qB,qC])
         refine wpAnyH_done (by kernel_rfl) ?_ _
         go_wp2
         go_meet;exact ⟨_,rfl,Lh (by omega),Lh (by repeat (first | exact Below.refl _ _ | refine Below.drew ?_ | refine Below.alloc ?_ (by first | (simp; done) | (simp; omega)) _)),Lh (by repeat (first | refine Blk.drew ?_ | exact Blk.new _ _ _ | exact Z5 _ _ _ _ | exact Zap _ _ _ _ _ | refine Blk.alloc ?_ _))⟩
        exact .nil
       exact .nil
      exact .nil
     exact .nil
    exact .nil
   refine .cons rfl (fun K hK=>?_) ?_
   ·go_simp
    refine hK.out _ _ ?_ (fun hHeld=>?_)
    ·(try dsimp only); (repeat' (first | exact Zi.drew | refine Zi.alloc ?_ _ | refine Zi.set ?_ (by simp) _))
    clear hK K
    (try simp only [Act.put,qA,qB,qC])
    refine wpAnyH_ready (rs:=[17,25]) (by kernel_rfl) (by simp) ?_;refine .cons rfl (fun K hK=>?_) ?_
    ·go_simp
     (go_at_call 78; (with_reducible refine (HT.out aregs bregs _ _ (by omega) ?_).mono ?_))
     ·(repeat (first | refine Blk.drew ?_ | exact Blk.new _ _ _ | exact Z5 _ _ _ _ | exact Zap _ _ _ _ _ | refine Blk.alloc ?_ _))
     rintro e w1 ⟨rfl,rfl⟩
     go_wp2_with fail
     refine hK.out _ _ ?_ (fun hHeld=>?_)
     ·(try dsimp only); (repeat' (first | exact Zi.drew | refine Zi.alloc ?_ _ | refine Zi.set ?_ (by simp) _))
     clear hK K
     (try simp only [Act.put,qA,qB,qC])
     refine wpAnyH_ready (rs:=[23,25]) (by kernel_rfl) (by simp) ?_;refine .cons rfl (fun K hK=>?_) ?_
     ·go_simp
      (go_at_call 78; (with_reducible refine (HT.out atemps btemps _ _ (by omega) ?_).mono ?_))
      ·(repeat (first | refine Blk.drew ?_ | exact Blk.new _ _ _ | exact Z5 _ _ _ _ | exact Zap _ _ _ _ _ | refine Blk.alloc ?_ _))
      rintro e w1 ⟨rfl,rfl⟩
      go_wp2_with fail
      refine hK.out _ _ ?_ (fun hHeld=>?_)
      ·(try dsimp only); (repeat' (first | exact Zi.drew | refine Zi.alloc ?_ _ | refine Zi.set ?_ (by simp) _))
      clear hK K
      (try simp only [Act.put,qA,qB,qC])
      refine wpAnyH_ready (rs:=[24,25]) (by kernel_rfl) (by simp) ?_;refine .cons rfl (fun K hK=>?_) ?_
      ·go_simp
       refine hK.out _ _ ?_ (fun hHeld=>?_)
       ·(try dsimp only); (repeat' (first | exact Zi.drew | refine Zi.alloc ?_ _ | refine Zi.set ?_ (by simp) _))
       clear hK K
       (try simp only [Act.put,qA,qB,qC])
       refine wpAnyH_ready (rs:=[25]) (by kernel_rfl) (by simp) ?_;refine .cons rfl (fun K hK=>?_) ?_
       ·go_simp
        refine hK.out _ _ ?_ (fun hHeld=>?_)
        ·(try dsimp only); (repeat' (first | exact Zi.drew | refine Zi.alloc ?_ _ | refine Zi.set ?_ (by simp) _))
        clear hK K
        (try simp only [Act.put,qA,qB,qC])
        refine wpAnyH_ready (rs:=[26]) (by kernel_rfl) (by simp) ?_;refine .cons rfl (fun K hK=>?_) ?_
        ·go_simp
         refine hK.out _ _ ?_ (fun hHeld=>?_)
         ·(try dsimp only); (repeat' (first | exact Zi.drew | refine Zi.alloc ?_ _ | refine Zi.set ?_ (by simp) _))
         clear hK K
         (try simp only [Act.put,qA,qB,qC])
         refine wpAnyH_done (by kernel_rfl) ?_ _
         go_wp2
         go_meet;exact ⟨_,rfl,Lh (by omega),Lh (by repeat (first | exact Below.refl _ _ | refine Below.drew ?_ | refine Below.alloc ?_ (by first | (simp; done) | (simp; omega)) _)),Lh (by repeat (first | refine Blk.drew ?_ | exact Blk.new _ _ _ | exact Z5 _ _ _ _ | exact Zap _ _ _ _ _ | refine Blk.alloc ?_ _))⟩
        exact .nil
       exact .nil
      refine .cons rfl (fun K hK=>?_) ?_
      ·go_simp
       refine hK.out _ _ ?_ (fun hHeld=>?_)
       ·(try dsimp only); (repeat' (first | exact Zi.drew | refine Zi.alloc ?_ _ | refine Zi.set ?_ (by simp) _))
       clear hK K
       (try simp only [Act.put,qA,qB,qC])
       refine wpAnyH_ready (rs:=[24]) (by kernel_rfl) (by simp) ?_;refine .cons rfl (fun K hK=>?_) ?_
       ·go_simp
        refine hK.out _ _ ?_ (fun hHeld=>?_)
        ·(try dsimp only); (repeat' (first | exact Zi.drew | refine Zi.alloc ?_ _ | refine Zi.set ?_ (by simp) _))
        clear hK K
        (try simp only [Act.put,qA,qB,qC])
        refine wpAnyH_ready (rs:=[26]) (by kernel_rfl) (by simp) ?_;refine .cons rfl (fun K hK=>?_) ?_
        ·go_simp
         refine hK.out _ _ ?_ (fun hHeld=>?_)
         ·(try dsimp only); (repeat' (first | exact Zi.drew | refine Zi.alloc ?_ _ | refine Zi.set ?_ (by simp) _))
         clear hK K
         (try simp only [Act.put,qA,qB,qC])
         refine wpAnyH_done (by kernel_rfl) ?_ _
         go_wp2
         go_meet;exact ⟨_,rfl,Lh (by omega),Lh (by repeat (first | exact Below.refl _ _ | refine Below.drew ?_ | refine Below.alloc ?_ (by first | (simp; done) | (simp; omega)) _)),Lh (by repeat (first | refine Blk.drew ?_ | exact Blk.new _ _ _ | exact Z5 _ _ _ _ | exact Zap _ _ _ _ _ | refine Blk.alloc ?_ _))⟩
        exact .nil
       exact .nil
      exact .nil
     refine .cons rfl (fun K hK=>?_) ?_
     ·go_simp
      refine hK.out _ _ ?_ (fun hHeld=>?_)
      ·(try dsimp only); (repeat' (first | exact Zi.drew | refine Zi.alloc ?_ _ | refine Zi.set ?_ (by simp) _))
      clear hK K
      (try simp only [Act.put,qA,qB,qC])
      refine wpAnyH_ready (rs:=[23]) (by kernel_rfl) (by simp) ?_;refine .cons rfl (fun K hK=>?_) ?_
      ·go_simp
       (go_at_call 78; (with_reducible refine (HT.out atemps btemps _ _ (by omega) ?_).mono ?_))
       ·(repeat (first | refine Blk.drew ?_ | exact Blk.new _ _ _ | exact Z5 _ _ _ _ | exact Zap _ _ _ _ _ | refine Blk.alloc ?_ _))
       rintro e w1 ⟨rfl,rfl⟩
       go_wp2_with fail
       refine hK.out _ _ ?_ (fun hHeld=>?_)
       ·(try dsimp only); (repeat' (first | exact Zi.drew | refine Zi.alloc ?_ _ | refine Zi.set ?_ (by simp) _))
       clear hK K
       (try simp only [Act.put,qA,qB,qC])
       refine wpAnyH_ready (rs:=[24]) (by kernel_rfl) (by simp) ?_;refine .cons rfl (fun K hK=>?_) ?_
       ·go_simp
        refine hK.out _ _ ?_ (fun hHeld=>?_)
        ·(try dsimp only); (repeat' (first | exact Zi.drew | refine Zi.alloc ?_ _ | refine Zi.set ?_ (by simp) _))
        clear hK K
        (try simp only [Act.put,qA,qB,qC])
        refine wpAnyH_ready (rs:=[26]) (by kernel_rfl) (by simp) ?_;refine .cons rfl (fun K hK=>?_) ?_
        ·go_simp
         refine hK.out _ _ ?_ (fun hHeld=>?_)
         ·(try dsimp only); (repeat' (first | exact Zi.drew | refine Zi.alloc ?_ _ | refine Zi.set ?_ (by simp) _))
         clear hK K
         (try simp only [Act.put,qA,qB,qC])
         refine wpAnyH_done (by kernel_rfl) ?_ _
         go_wp2
         go_meet;exact ⟨_,rfl,Lh (by omega),Lh (by repeat (first | exact Below.refl _ _ | refine Below.drew ?_ | refine Below.alloc ?_ (by first | (simp; done) | (simp; omega)) _)),Lh (by repeat (first | refine Blk.drew ?_ | exact Blk.new _ _ _ | exact Z5 _ _ _ _ | exact Zap _ _ _ _ _ | refine Blk.alloc ?_ _))⟩
        exact .nil
       exact .nil
      exact .nil
     exact .nil
    refine .cons rfl (fun K hK=>?_) ?_
    ·go_simp
     refine hK.out _ _ ?_ (fun hHeld=>?_)
     ·(try dsimp only); (repeat' (first | exact Zi.drew | refine Zi.alloc ?_ _ | refine Zi.set ?_ (by simp) _))
     clear hK K
     (try simp only [Act.put,qA,qB,qC])
     refine wpAnyH_ready (rs:=[17]) (by kernel_rfl) (by simp) ?_;refine .cons rfl (fun K hK=>?_) ?_
     ·go_simp
      (go_at_call 78; (with_reducible refine (HT.out aregs bregs _ _ (by omega) ?_).mono ?_))
      ·(repeat (first | refine Blk.drew ?_ | exact Blk.new _ _ _ | exact Z5 _ _ _ _ | exact Zap _ _ _ _ _ | refine Blk.alloc ?_ _))
      rintro e w1 ⟨rfl,rfl⟩
      go_wp2_with fail
      refine hK.out _ _ ?_ (fun hHeld=>?_)
      ·(try dsimp only); (repeat' (first | exact Zi.drew | refine Zi.alloc ?_ _ | refine Zi.set ?_ (by simp) _))
      clear hK K
      (try simp only [Act.put,qA,qB,qC])
      refine wpAnyH_ready (rs:=[23]) (by kernel_rfl) (by simp) ?_;refine .cons rfl (fun K hK=>?_) ?_
      ·go_simp
       (go_at_call 78; (with_reducible refine (HT.out atemps btemps _ _ (by omega) ?_).mono ?_))
       ·(repeat (first | refine Blk.drew ?_ | exact Blk.new _ _ _ | exact Z5 _ _ _ _ | exact Zap _ _ _ _ _ | refine Blk.alloc ?_ _))
       rintro e w1 ⟨rfl,rfl⟩
       go_wp2_with fail
       refine hK.out _ _ ?_ (fun hHeld=>?_)
       ·(try dsimp only); (repeat' (first | exact Zi.drew | refine Zi.alloc ?_ _ | refine Zi.set ?_ (by simp) _))
       clear hK K
       (try simp only [Act.put,qA,qB,qC])
       refine wpAnyH_ready (rs:=[24]) (by kernel_rfl) (by simp) ?_;refine .cons rfl (fun K hK=>?_) ?_
       ·go_simp
        refine hK.out _ _ ?_ (fun hHeld=>?_)
        ·(try dsimp only); (repeat' (first | exact Zi.drew | refine Zi.alloc ?_ _ | refine Zi.set ?_ (by simp) _))
        clear hK K
        (try simp only [Act.put,qA,qB,qC])
        refine wpAnyH_ready (rs:=[26]) (by kernel_rfl) (by simp) ?_;refine .cons rfl (fun K hK=>?_) ?_
        ·go_simp
         refine hK.out _ _ ?_ (fun hHeld=>?_)
         ·(try dsimp only); (repeat' (first | exact Zi.drew | refine Zi.alloc ?_ _ | refine Zi.set ?_ (by simp) _))
         clear hK K
         (try simp only [Act.put,qA,qB,qC])
         refine wpAnyH_done (by kernel_rfl) ?_ _
         go_wp2
         go_meet;exact ⟨_,rfl,Lh (by omega),Lh (by repeat (first | exact Below.refl _ _ | refine Below.drew ?_ | refine Below.alloc ?_ (by first | (simp; done) | (simp; omega)) _)),Lh (by repeat (first | refine Blk.drew ?_ | exact Blk.new _ _ _ | exact Z5 _ _ _ _ | exact Zap _ _ _ _ _ | refine Blk.alloc ?_ _))⟩
        exact .nil
       exact .nil
      exact .nil
     exact .nil
    exact .nil
   refine .cons rfl (fun K hK=>?_) ?_
   ·go_simp
    refine hK.out _ _ ?_ (fun hHeld=>?_)
    ·(try dsimp only); (repeat' (first | exact Zi.drew | refine Zi.alloc ?_ _ | refine Zi.set ?_ (by simp) _))
    clear hK K
    (try simp only [Act.put,qA,qB,qC])
    refine wpAnyH_ready (rs:=[17,22]) (by kernel_rfl) (by simp) ?_;refine .cons rfl (fun K hK=>?_) ?_
    ·go_simp
     (go_at_call 78; (with_reducible refine (HT.out aregs bregs _ _ (by omega) ?_).mono ?_))
     ·(repeat (first | refine Blk.drew ?_ | exact Blk.new _ _ _ | exact Z5 _ _ _ _ | exact Zap _ _ _ _ _ | refine Blk.alloc ?_ _))
     rintro e w1 ⟨rfl,rfl⟩
     go_wp2_with fail
     refine hK.out _ _ ?_ (fun hHeld=>?_)
     ·(try dsimp only); (repeat' (first | exact Zi.drew | refine Zi.alloc ?_ _ | refine Zi.set ?_ (by simp) _))
     clear hK K
     (try simp only [Act.put,qA,qB,qC])
     refine wpAnyH_ready (rs:=[22]) (by kernel_rfl) (by simp) ?_;refine .cons rfl (fun K hK=>?_) ?_
     ·go_simp
      refine hK.out _ _ ?_ (fun hHeld=>?_)
      ·(try dsimp only); (repeat' (first | exact Zi.drew | refine Zi.alloc ?_ _ | refine Zi.set ?_ (by simp) _))
      clear hK K
      (try simp only [Act.put,qA,qB,qC])
      refine wpAnyH_ready (rs:=[23]) (by kernel_rfl) (by simp) ?_;refine .cons rfl (fun K hK=>?_) ?_
      ·go_simp
       (go_at_call 78; (with_reducible refine (HT.out atemps btemps _ _ (by omega) ?_).mono ?_))
       ·(repeat (first | refine Blk.drew ?_ | exact Blk.new _ _ _ | exact Z5 _ _ _ _ | exact Zap _ _ _ _ _ | refine Blk.alloc ?_ _))
       rintro e w1 ⟨rfl,rfl⟩
       go_wp2_with fail
       refine hK.out _ _ ?_ (fun hHeld=>?_)
       ·(try dsimp only); (repeat' (first | exact Zi.drew | refine Zi.alloc ?_ _ | refine Zi.set ?_ (by simp) _))
       clear hK K
       (try simp only [Act.put,qA,qB,qC])
       refine wpAnyH_ready (rs:=[24]) (by kernel_rfl) (by simp) ?_;refine .cons rfl (fun K hK=>?_) ?_
       ·go_simp
        refine hK.out _ _ ?_ (fun hHeld=>?_)
        ·(try dsimp only); (repeat' (first | exact Zi.drew | refine Zi.alloc ?_ _ | refine Zi.set ?_ (by simp) _))
        clear hK K
        (try simp only [Act.put,qA,qB,qC])
        refine wpAnyH_ready (rs:=[26]) (by kernel_rfl) (by simp) ?_;refine .cons rfl (fun K hK=>?_) ?_
        ·go_simp
         refine hK.out _ _ ?_ (fun hHeld=>?_)
         ·(try dsimp only); (repeat' (first | exact Zi.drew | refine Zi.alloc ?_ _ | refine Zi.set ?_ (by simp) _))
         clear hK K
         (try simp only [Act.put,qA,qB,qC])
         refine wpAnyH_done (by kernel_rfl) ?_ _
         go_wp2
         go_meet;exact ⟨_,rfl,Lh (by omega),Lh (by repeat (first | exact Below.refl _ _ | refine Below.drew ?_ | refine Below.alloc ?_ (by first | (simp; done) | (simp; omega)) _)),Lh (by repeat (first | refine Blk.drew ?_ | exact Blk.new _ _ _ | exact Z5 _ _ _ _ | exact Zap _ _ _ _ _ | refine Blk.alloc ?_ _))⟩
        exact .nil
       exact .nil
      exact .nil
     exact .nil
    refine .cons rfl (fun K hK=>?_) ?_
    ·go_simp
     refine hK.out _ _ ?_ (fun hHeld=>?_)
     ·(try dsimp only); (repeat' (first | exact Zi.drew | refine Zi.alloc ?_ _ | refine Zi.set ?_ (by simp) _))
     clear hK K
     (try simp only [Act.put,qA,qB,qC])
     refine wpAnyH_ready (rs:=[17]) (by kernel_rfl) (by simp) ?_;refine .cons rfl (fun K hK=>?_) ?_
     ·go_simp
      (go_at_call 78; (with_reducible refine (HT.out aregs bregs _ _ (by omega) ?_).mono ?_))
      ·(repeat (first | refine Blk.drew ?_ | exact Blk.new _ _ _ | exact Z5 _ _ _ _ | exact Zap _ _ _ _ _ | refine Blk.alloc ?_ _))
      rintro e w1 ⟨rfl,rfl⟩
      go_wp2_with fail
      refine hK.out _ _ ?_ (fun hHeld=>?_)
      ·(try dsimp only); (repeat' (first | exact Zi.drew | refine Zi.alloc ?_ _ | refine Zi.set ?_ (by simp) _))
      clear hK K
      (try simp only [Act.put,qA,qB,qC])
      refine wpAnyH_ready (rs:=[23]) (by kernel_rfl) (by simp) ?_;refine .cons rfl (fun K hK=>?_) ?_
      ·go_simp
       (go_at_call 78; (with_reducible refine (HT.out atemps btemps _ _ (by omega) ?_).mono ?_))
       ·(repeat (first | refine Blk.drew ?_ | exact Blk.new _ _ _ | exact Z5 _ _ _ _ | exact Zap _ _ _ _ _ | refine Blk.alloc ?_ _))
       rintro e w1 ⟨rfl,rfl⟩
       go_wp2_with fail
       refine hK.out _ _ ?_ (fun hHeld=>?_)
       ·(try dsimp only); (repeat' (first | exact Zi.drew | refine Zi.alloc ?_ _ | refine Zi.set ?_ (by simp) _))
       clear hK K
       (try simp only [Act.put,qA,qB,qC])
       refine wpAnyH_ready (rs:=[24]) (by kernel_rfl) (by simp) ?_;refine .cons rfl (fun K hK=>?_) ?_
       ·go_simp
        refine hK.out _ _ ?_ (fun hHeld=>?_)
        ·(try dsimp only); (repeat' (first | exact Zi.drew | refine Zi.alloc ?_ _ | refine Zi.set ?_ (by simp) _))
        clear hK K
        (try simp only [Act.put,qA,qB,qC])
        refine wpAnyH_ready (rs:=[26]) (by kernel_rfl) (by simp) ?_;refine .cons rfl (fun K hK=>?_) ?_
        ·go_simp
         refine hK.out _ _ ?_ (fun hHeld=>?_)
         ·(try dsimp only); (repeat' (first | exact Zi.drew | refine Zi.alloc ?_ _ | refine Zi.set ?_ (by simp) _))
         clear hK K
         (try simp only [Act.put,qA,qB,qC])
         refine wpAnyH_done (by kernel_rfl) ?_ _
         go_wp2
         go_meet;exact ⟨_,rfl,Lh (by omega),Lh (by repeat (first | exact Below.refl _ _ | refine Below.drew ?_ | refine Below.alloc ?_ (by first | (simp; done) | (simp; omega)) _)),Lh (by repeat (first | refine Blk.drew ?_ | exact Blk.new _ _ _ | exact Z5 _ _ _ _ | exact Zap _ _ _ _ _ | refine Blk.alloc ?_ _))⟩
        exact .nil
       exact .nil
      exact .nil
     exact .nil
    exact .nil
   exact .nil
  refine .cons rfl (fun K hK=>?_) ?_
  ·go_simp
   refine hK.out _ _ ?_ (fun hHeld=>?_)
   ·(try dsimp only); (repeat' (first | exact Zi.drew | refine Zi.alloc ?_ _ | refine Zi.set ?_ (by simp) _))
   clear hK K
   (try simp only [Act.put,qA,qB,qC])
   refine wpAnyH_ready (rs:=[16,25]) (by kernel_rfl) (by simp) ?_;refine .cons rfl (fun K hK=>?_) ?_
   ·go_simp
    refine hK.out _ _ ?_ (fun hHeld=>?_)
    ·(try dsimp only); (repeat' (first | exact Zi.drew | refine Zi.alloc ?_ _ | refine Zi.set ?_ (by simp) _))
    clear hK K
    (try simp only [Act.put,qA,qB,qC])
    refine wpAnyH_ready (rs:=[17,25]) (by kernel_rfl) (by simp) ?_;refine .cons rfl (fun K hK=>?_) ?_
    ·go_simp
     (go_at_call 78; (with_reducible refine (HT.out aregs bregs _ _ (by omega) ?_).mono ?_))
     ·(repeat (first | refine Blk.drew ?_ | exact Blk.new _ _ _ | exact Z5 _ _ _ _ | exact Zap _ _ _ _ _ | refine Blk.alloc ?_ _))
     rintro e w1 ⟨rfl,rfl⟩
     go_wp2_with fail
     refine hK.out _ _ ?_ (fun hHeld=>?_)
     ·(try dsimp only); (repeat' (first | exact Zi.drew | refine Zi.alloc ?_ _ | refine Zi.set ?_ (by simp) _))
     clear hK K
     (try simp only [Act.put,qA,qB,qC])
     refine wpAnyH_ready (rs:=[23,25]) (by kernel_rfl) (by simp) ?_;refine .cons rfl (fun K hK=>?_) ?_
     ·go_simp
      (go_at_call 78; (with_reducible refine (HT.out atemps btemps _ _ (by omega) ?_).mono ?_))
      ·(repeat (first | refine Blk.drew ?_ | exact Blk.new _ _ _ | exact Z5 _ _ _ _ | exact Zap _ _ _ _ _ | refine Blk.alloc ?_ _))
      rintro e w1 ⟨rfl,rfl⟩
      go_wp2_with fail
      refine hK.out _ _ ?_ (fun hHeld=>?_)
      ·(try dsimp only); (repeat' (first | exact Zi.drew | refine Zi.alloc ?_ _ | refine Zi.set ?_ (by simp) _))
      clear hK K
      (try simp only [Act.put,qA,qB,qC])
      refine wpAnyH_ready (rs:=[24,25]) (by kernel_rfl) (by simp) ?_;refine .cons rfl (fun K hK=>?_) ?_
      ·go_simp
       refine hK.out _ _ ?_ (fun hHeld=>?_)
       ·(try dsimp only); (repeat' (first | exact Zi.drew | refine Zi.alloc ?_ _ | refine Zi.set ?_ (by simp) _))
       clear hK K
       (try simp only [Act.put,qA,qB,qC])
       refine wpAnyH_ready (rs:=[25]) (by kernel_rfl) (by simp) ?_;refine .cons rfl (fun K hK=>?_) ?_
       ·go_simp
        refine hK.out _ _ ?_ (fun hHeld=>?_)
        ·(try dsimp only); (repeat' (first | exact Zi.drew | refine Zi.alloc ?_ _ | refine Zi.set ?_ (by simp) _))
        clear hK K
        (try simp only [Act.put,qA,qB,qC])
        refine wpAnyH_ready (rs:=[26]) (by kernel_rfl) (by simp) ?_;refine .cons rfl (fun K hK=>?_) ?_
        ·go_simp
         refine hK.out _ _ ?_ (fun hHeld=>?_)
         ·(try dsimp only); (repeat' (first | exact Zi.drew | refine Zi.alloc ?_ _ | refine Zi.set ?_ (by simp) _))
         clear hK K
         (try simp only [Act.put,qA,qB,qC])
         refine wpAnyH_done (by kernel_rfl) ?_ _
         go_wp2
         go_meet;exact ⟨_,rfl,Lh (by omega),Lh (by repeat (first | exact Below.refl _ _ | refine Below.drew ?_ | refine Below.alloc ?_ (by first | (simp; done) | (simp; omega)) _)),Lh (by repeat (first | refine Blk.drew ?_ | exact Blk.new _ _ _ | exact Z5 _ _ _ _ | exact Zap _ _ _ _ _ | refine Blk.alloc ?_ _))⟩
        exact .nil
       exact .nil
      refine .cons rfl (fun K hK=>?_) ?_
      ·go_simp
       refine hK.out _ _ ?_ (fun hHeld=>?_)
       ·(try dsimp only); (repeat' (first | exact Zi.drew | refine Zi.alloc ?_ _ | refine Zi.set ?_ (by simp) _))
       clear hK K
       (try simp only [Act.put,qA,qB,qC])
       refine wpAnyH_ready (rs:=[24]) (by kernel_rfl) (by simp) ?_;refine .cons rfl (fun K hK=>?_) ?_
       ·go_simp
        refine hK.out _ _ ?_ (fun hHeld=>?_)
        ·(try dsimp only); (repeat' (first | exact Zi.drew | refine Zi.alloc ?_ _ | refine Zi.set ?_ (by simp) _))
        clear hK K
        (try simp only [Act.put,qA,qB,qC])
        refine wpAnyH_ready (rs:=[26]) (by kernel_rfl) (by simp) ?_;refine .cons rfl (fun K hK=>?_) ?_
        ·go_simp
         refine hK.out _ _ ?_ (fun hHeld=>?_)
         ·(try dsimp only); (repeat' (first | exact Zi.drew | refine Zi.alloc ?_ _ | refine Zi.set ?_ (by simp) _))
         clear hK K
         (try simp only [Act.put,qA,qB,qC])
         refine wpAnyH_done (by kernel_rfl) ?_ _
         go_wp2
         go_meet;exact ⟨_,rfl,Lh (by omega),Lh (by repeat (first | exact Below.refl _ _ | refine Below.drew ?_ | refine Below.alloc ?_ (by first | (simp; done) | (simp; omega)) _)),Lh (by repeat (first | refine Blk.drew ?_ | exact Blk.new _ _ _ | exact Z5 _ _ _ _ | exact Zap _ _ _ _ _ | refine Blk.alloc ?_ _))⟩
        exact .nil
       exact .nil
      exact .nil
     refine .cons rfl (fun K hK=>?_) ?_
     ·go_simp
      refine hK.out _ _ ?_ (fun hHeld=>?_)
      ·(try dsimp only); (repeat' (first | exact Zi.drew | refine Zi.alloc ?_ _ | refine Zi.set ?_ (by simp) _))
      clear hK K
      (try simp only [Act.put,qA,qB,qC])
      refine wpAnyH_ready (rs:=[23]) (by kernel_rfl) (by simp) ?_;refine .cons rfl (fun K hK=>?_) ?_
      ·go_simp
       (go_at_call 78; (with_reducible refine (HT.out atemps btemps _ _ (by omega) ?_).mono ?_))
       ·(repeat (first | refine Blk.drew ?_ | exact Blk.new _ _ _ | exact Z5 _ _ _ _ | exact Zap _ _ _ _ _ | refine Blk.alloc ?_ _))
       rintro e w1 ⟨rfl,rfl⟩
       go_wp2_with fail
       refine hK.out _ _ ?_ (fun hHeld=>?_)
       ·(try dsimp only); (repeat' (first | exact Zi.drew | refine Zi.alloc ?_ _ | refine Zi.set ?_ (by simp) _))
       clear hK K
       (try simp only [Act.put,qA,qB,qC])
       refine wpAnyH_ready (rs:=[24]) (by kernel_rfl) (by simp) ?_;refine .cons rfl (fun K hK=>?_) ?_
       ·go_simp
        refine hK.out _ _ ?_ (fun hHeld=>?_)
        ·(try dsimp only); (repeat' (first | exact Zi.drew | refine Zi.alloc ?_ _ | refine Zi.set ?_ (by simp) _))
        clear hK K
        (try simp only [Act.put,qA,qB,qC])
        refine wpAnyH_ready (rs:=[26]) (by kernel_rfl) (by simp) ?_;refine .cons rfl (fun K hK=>?_) ?_
        ·go_simp
         refine hK.out _ _ ?_ (fun hHeld=>?_)
         ·(try dsimp only); (repeat' (first | exact Zi.drew | refine Zi.alloc ?_ _ | refine Zi.set ?_ (by simp) _))
         clear hK K
         (try simp only [Act.put,qA,qB,qC])
         refine wpAnyH_done (by kernel_rfl) ?_ _
         go_wp2
         go_meet;exact ⟨_,rfl,Lh (by omega),Lh (by repeat (first | exact Below.refl _ _ | refine Below.drew ?_ | refine Below.alloc ?_ (by first | (simp; done) | (simp; omega)) _)),Lh (by repeat (first | refine Blk.drew ?_ | exact Blk.new _ _ _ | exact Z5 _ _ _ _ | exact Zap _ _ _ _ _ | refine Blk.alloc ?_ _))⟩
        exact .nil
       exact .nil
      exact .nil
     exact .nil
    refine .cons rfl (fun K hK=>?_) ?_
    ·go_simp
     refine hK.out _ _ ?_ (fun hHeld=>?_)
     ·(try dsimp only); (repeat' (first | exact Zi.drew | refine Zi.alloc ?_ _ | refine Zi.set ?_ (by simp) _))
     clear hK K
     (try simp only [Act.put,qA,qB,qC])
     refine wpAnyH_ready (rs:=[17]) (by kernel_rfl) (by simp) ?_;refine .cons rfl (fun K hK=>?_) ?_
     ·go_simp
      (go_at_call 78; (with_reducible refine (HT.out aregs bregs _ _ (by omega) ?_).mono ?_))
      ·(repeat (first | refine Blk.drew ?_ | exact Blk.new _ _ _ | exact Z5 _ _ _ _ | exact Zap _ _ _ _ _ | refine Blk.alloc ?_ _))
      rintro e w1 ⟨rfl,rfl⟩
      go_wp2_with fail
      refine hK.out _ _ ?_ (fun hHeld=>?_)
      ·(try dsimp only); (repeat' (first | exact Zi.drew | refine Zi.alloc ?_ _ | refine Zi.set ?_ (by simp) _))
      clear hK K
      (try simp only [Act.put,qA,qB,qC])
      refine wpAnyH_ready (rs:=[23]) (by kernel_rfl) (by simp) ?_;refine .cons rfl (fun K hK=>?_) ?_
      ·go_simp
       (go_at_call 78; (with_reducible refine (HT.out atemps btemps _ _ (by omega) ?_).mono ?_))
       ·(repeat (first | refine Blk.drew ?_ | exact Blk.new _ _ _ | exact Z5 _ _ _ _ | exact Zap _ _ _ _ _ | refine Blk.alloc ?_ _))
       rintro e w1 ⟨rfl,rfl⟩
       go_wp2_with fail
       refine hK.out _ _ ?_ (fun hHeld=>?_)
       ·(try dsimp only); (repeat' (first | exact Zi.drew | refine Zi.alloc ?_ _ | refine Zi.set ?_ (by simp) _))
       clear hK K
       (try simp only [Act.put,qA,qB,qC])
       refine wpAnyH_ready (rs:=[24]) (by kernel_rfl) (by simp) ?_;refine .cons rfl (fun K hK=>?_) ?_
       ·go_simp
        refine hK.out _ _ ?_ (fun hHeld=>?_)
        ·(try dsimp only); (repeat' (first | exact Zi.drew | refine Zi.alloc ?_ _ | refine Zi.set ?_ (by simp) _))
        clear hK K
        (try simp only [Act.put,qA,qB,qC])
        refine wpAnyH_ready (rs:=[26]) (by kernel_rfl) (by simp) ?_;refine .cons rfl (fun K hK=>?_) ?_
        ·go_simp
         refine hK.out _ _ ?_ (fun hHeld=>?_)
         ·(try dsimp only); (repeat' (first | exact Zi.drew | refine Zi.alloc ?_ _ | refine Zi.set ?_ (by simp) _))
         clear hK K
         (try simp only [Act.put,qA,qB,qC])
         refine wpAnyH_done (by kernel_rfl) ?_ _
         go_wp2
         go_meet;exact ⟨_,rfl,Lh (by omega),Lh (by repeat (first | exact Below.refl _ _ | refine Below.drew ?_ | refine Below.alloc ?_ (by first | (simp; done) | (simp; omega)) _)),Lh (by repeat (first | refine Blk.drew ?_ | exact Blk.new _ _ _ | exact Z5 _ _ _ _ | exact Zap _ _ _ _ _ | refine Blk.alloc ?_ _))⟩
        exact .nil
       exact .nil
      exact .nil
     exact .nil
    exact .nil
   refine .cons rfl (fun K hK=>?_) ?_
   ·go_simp
    refine hK.out _ _ ?_ (fun hHeld=>?_)
    ·(try dsimp only); (repeat' (first | exact Zi.drew | refine Zi.alloc ?_ _ | refine Zi.set ?_ (by simp) _))
    clear hK K
    (try simp only [Act.put,qA,qB,qC])
    refine wpAnyH_ready (rs:=[16]) (by kernel_rfl) (by simp) ?_;refine .cons rfl (fun K hK=>?_) ?_
    ·go_simp
     refine hK.out _ _ ?_ (fun hHeld=>?_)
     ·(try dsimp only); (repeat' (first | exact Zi.drew | refine Zi.alloc ?_ _ | refine Zi.set ?_ (by simp) _))
     clear hK K
     (try simp only [Act.put,qA,qB,qC])
     refine wpAnyH_ready (rs:=[17]) (by kernel_rfl) (by simp) ?_;refine .cons rfl (fun K hK=>?_) ?_
     ·go_simp
      (go_at_call 78; (with_reducible refine (HT.out aregs bregs _ _ (by omega) ?_).mono ?_))
      ·(repeat (first | refine Blk.drew ?_ | exact Blk.new _ _ _ | exact Z5 _ _ _ _ | exact Zap _ _ _ _ _ | refine Blk.alloc ?_ _))
      rintro e w1 ⟨rfl,rfl⟩
      go_wp2_with fail
      refine hK.out _ _ ?_ (fun hHeld=>?_)
      ·(try dsimp only); (repeat' (first | exact Zi.drew | refine Zi.alloc ?_ _ | refine Zi.set ?_ (by simp) _))
      clear hK K
      (try simp only [Act.put,qA,qB,qC])
      refine wpAnyH_ready (rs:=[23]) (by kernel_rfl) (by simp) ?_;refine .cons rfl (fun K hK=>?_) ?_
      ·go_simp
       (go_at_call 78; (with_reducible refine (HT.out atemps btemps _ _ (by omega) ?_).mono ?_))
       ·(repeat (first | refine Blk.drew ?_ | exact Blk.new _ _ _ | exact Z5 _ _ _ _ | exact Zap _ _ _ _ _ | refine Blk.alloc ?_ _))
       rintro e w1 ⟨rfl,rfl⟩
       go_wp2_with fail
       refine hK.out _ _ ?_ (fun hHeld=>?_)
       ·(try dsimp only); (repeat' (first | exact Zi.drew | refine Zi.alloc ?_ _ | refine Zi.set ?_ (by simp) _))
       clear hK K
       (try simp only [Act.put,qA,qB,qC])
       refine wpAnyH_ready (rs:=[24]) (by kernel_rfl) (by simp) ?_;refine .cons rfl (fun K hK=>?_) ?_
       ·go_simp
        refine hK.out _ _ ?_ (fun hHeld=>?_)
        ·(try dsimp only); (repeat' (first | exact Zi.drew | refine Zi.alloc ?_ _ | refine Zi.set ?_ (by simp) _))
        clear hK K
        (try simp only [Act.put,qA,qB,qC])
        refine wpAnyH_ready (rs:=[26]) (by kernel_rfl) (by simp) ?_;refine .cons rfl (fun K hK=>?_) ?_
        ·go_simp
         refine hK.out _ _ ?_ (fun hHeld=>?_)
         ·(try dsimp only); (repeat' (first | exact Zi.drew | refine Zi.alloc ?_ _ | refine Zi.set ?_ (by simp) _))
         clear hK K
         (try simp only [Act.put,qA,qB,qC])
         refine wpAnyH_done (by kernel_rfl) ?_ _
         go_wp2
         go_meet;exact ⟨_,rfl,Lh (by omega),Lh (by repeat (first | exact Below.refl _ _ | refine Below.drew ?_ | refine Below.alloc ?_ (by first | (simp; done) | (simp; omega)) _)),Lh (by repeat (first | refine Blk.drew ?_ | exact Blk.new _ _ _ | exact Z5 _ _ _ _ | exact Zap _ _ _ _ _ | refine Blk.alloc ?_ _))⟩
        exact .nil
       exact .nil
      exact .nil
     exact .nil
    exact .nil
   exact .nil
  refine .cons rfl (fun K hK=>?_) ?_
  ·go_simp
   refine hK.out _ _ ?_ (fun hHeld=>?_)
   ·(try dsimp only); (repeat' (first | exact Zi.drew | refine Zi.alloc ?_ _ | refine Zi.set ?_ (by simp) _))
   clear hK K
   (try simp only [Act.put,qA,qB,qC])
   refine wpAnyH_ready (rs:=[16,22]) (by kernel_rfl) (by simp) ?_;refine .cons rfl (fun K hK=>?_) ?_
   ·go_simp
    refine hK.out _ _ ?_ (fun hHeld=>?_)
    ·(try dsimp only); (repeat' (first | exact Zi.drew | refine Zi.alloc ?_ _ | refine Zi.set ?_ (by simp) _))
    clear hK K
    (try simp only [Act.put,qA,qB,qC])
    refine wpAnyH_ready (rs:=[17,22]) (by kernel_rfl) (by simp) ?_;refine .cons rfl (fun K hK=>?_) ?_
    ·go_simp
     (go_at_call 78; (with_reducible refine (HT.out aregs bregs _ _ (by omega) ?_).mono ?_))
     ·(repeat (first | refine Blk.drew ?_ | exact Blk.new _ _ _ | exact Z5 _ _ _ _ | exact Zap _ _ _ _ _ | refine Blk.alloc ?_ _))
     rintro e w1 ⟨rfl,rfl⟩
     go_wp2_with fail
     refine hK.out _ _ ?_ (fun hHeld=>?_)
     ·(try dsimp only); (repeat' (first | exact Zi.drew | refine Zi.alloc ?_ _ | refine Zi.set ?_ (by simp) _))
     clear hK K
     (try simp only [Act.put,qA,qB,qC])
     refine wpAnyH_ready (rs:=[22]) (by kernel_rfl) (by simp) ?_;refine .cons rfl (fun K hK=>?_) ?_
     ·go_simp
      refine hK.out _ _ ?_ (fun hHeld=>?_)
      ·(try dsimp only); (repeat' (first | exact Zi.drew | refine Zi.alloc ?_ _ | refine Zi.set ?_ (by simp) _))
      clear hK K
      (try simp only [Act.put,qA,qB,qC])
      refine wpAnyH_ready (rs:=[23]) (by kernel_rfl) (by simp) ?_;refine .cons rfl (fun K hK=>?_) ?_
      ·go_simp
       (go_at_call 78; (with_reducible refine (HT.out atemps btemps _ _ (by omega) ?_).mono ?_))
       ·(repeat (first | refine Blk.drew ?_ | exact Blk.new _ _ _ | exact Z5 _ _ _ _ | exact Zap _ _ _ _ _ | refine Blk.alloc ?_ _))
       rintro e w1 ⟨rfl,rfl⟩
       go_wp2_with fail
       refine hK.out _ _ ?_ (fun hHeld=>?_)
       ·(try dsimp only); (repeat' (first | exact Zi.drew | refine Zi.alloc ?_ _ | refine Zi.set ?_ (by simp) _))
       clear hK K
       (try simp only [Act.put,qA,qB,qC])
       refine wpAnyH_ready (rs:=[24]) (by kernel_rfl) (by simp) ?_;refine .cons rfl (fun K hK=>?_) ?_
       ·go_simp
        refine hK.out _ _ ?_ (fun hHeld=>?_)
        ·(try dsimp only); (repeat' (first | exact Zi.drew | refine Zi.alloc ?_ _ | refine Zi.set ?_ (by simp) _))
        clear hK K
        (try simp only [Act.put,qA,qB,qC])
        refine wpAnyH_ready (rs:=[26]) (by kernel_rfl) (by simp) ?_;refine .cons rfl (fun K hK=>?_) ?_
        ·go_simp
         refine hK.out _ _ ?_ (fun hHeld=>?_)
         ·(try dsimp only); (repeat' (first | exact Zi.drew | refine Zi.alloc ?_ _ | refine Zi.set ?_ (by simp) _))
         clear hK K
         (try simp only [Act.put,qA,qB,qC])
         refine wpAnyH_done (by kernel_rfl) ?_ _
         go_wp2
         go_meet;exact ⟨_,rfl,Lh (by omega),Lh (by repeat (first | exact Below.refl _ _ | refine Below.drew ?_ | refine Below.alloc ?_ (by first | (simp; done) | (simp; omega)) _)),Lh (by repeat (first | refine Blk.drew ?_ | exact Blk.new _ _ _ | exact Z5 _ _ _ _ | exact Zap _ _ _ _ _ | refine Blk.alloc ?_ _))⟩
        exact .nil
       exact .nil
      exact .nil
     exact .nil
    refine .cons rfl (fun K hK=>?_) ?_
    ·go_simp
     refine hK.out _ _ ?_ (fun hHeld=>?_)
     ·(try dsimp only); (repeat' (first | exact Zi.drew | refine Zi.alloc ?_ _ | refine Zi.set ?_ (by simp) _))
     clear hK K
     (try simp only [Act.put,qA,qB,qC])
     refine wpAnyH_ready (rs:=[17]) (by kernel_rfl) (by simp) ?_;refine .cons rfl (fun K hK=>?_) ?_
     ·go_simp
      (go_at_call 78; (with_reducible refine (HT.out aregs bregs _ _ (by omega) ?_).mono ?_))
      ·(repeat (first | refine Blk.drew ?_ | exact Blk.new _ _ _ | exact Z5 _ _ _ _ | exact Zap _ _ _ _ _ | refine Blk.alloc ?_ _))
      rintro e w1 ⟨rfl,rfl⟩
      go_wp2_with fail
      refine hK.out _ _ ?_ (fun hHeld=>?_)
      ·(try dsimp only); (repeat' (first | exact Zi.drew | refine Zi.alloc ?_ _ | refine Zi.set ?_ (by simp) _))
      clear hK K
      (try simp only [Act.put,qA,qB,qC])
      refine wpAnyH_ready (rs:=[23]) (by kernel_rfl) (by simp) ?_;refine .cons rfl (fun K hK=>?_) ?_
      ·go_simp
       (go_at_call 78; (with_reducible refine (HT.out atemps btemps _ _ (by omega) ?_).mono ?_))
       ·(repeat (first | refine Blk.drew ?_ | exact Blk.new _ _ _ | exact Z5 _ _ _ _ | exact Zap _ _ _ _ _ | refine Blk.alloc ?_ _))
       rintro e w1 ⟨rfl,rfl⟩
       go_wp2_with fail
       refine hK.out _ _ ?_ (fun hHeld=>?_)
       ·(try dsimp only); (repeat' (first | exact Zi.drew | refine Zi.alloc ?_ _ | refine Zi.set ?_ (by simp) _))
       clear hK K
       (try simp only [Act.put,qA,qB,qC])
       refine wpAnyH_ready (rs:=[24]) (by kernel_rfl) (by simp) ?_;refine .cons rfl (fun K hK=>?_) ?_
       ·go_simp
        refine hK.out _ _ ?_ (fun hHeld=>?_)
        ·(try dsimp only); (repeat' (first | exact Zi.drew | refine Zi.alloc ?_ _ | refine Zi.set ?_ (by simp) _))
        clear hK K
        (try simp only [Act.put,qA,qB,qC])
        refine wpAnyH_ready (rs:=[26]) (by kernel_rfl) (by simp) ?_;refine .cons rfl (fun K hK=>?_) ?_
        ·go_simp
         refine hK.out _ _ ?_ (fun hHeld=>?_)
         ·(try dsimp only); (repeat' (first | exact Zi.drew | refine Zi.alloc ?_ _ | refine Zi.set ?_ (by simp) _))
         clear hK K
         (try simp only [Act.put,qA,qB,qC])
         refine wpAnyH_done (by kernel_rfl) ?_ _
         go_wp2
         go_meet;exact ⟨_,rfl,Lh (by omega),Lh (by repeat (first | exact Below.refl _ _ | refine Below.drew ?_ | refine Below.alloc ?_ (by first | (simp; done) | (simp; omega)) _)),Lh (by repeat (first | refine Blk.drew ?_ | exact Blk.new _ _ _ | exact Z5 _ _ _ _ | exact Zap _ _ _ _ _ | refine Blk.alloc ?_ _))⟩
        exact .nil
       exact .nil
      exact .nil
     exact .nil
    exact .nil
   refine .cons rfl (fun K hK=>?_) ?_
   ·go_simp
    refine hK.out _ _ ?_ (fun hHeld=>?_)
    ·(try dsimp only); (repeat' (first | exact Zi.drew | refine Zi.alloc ?_ _ | refine Zi.set ?_ (by simp) _))
    clear hK K
    (try simp only [Act.put,qA,qB,qC])
    refine wpAnyH_ready (rs:=[16]) (by kernel_rfl) (by simp) ?_;refine .cons rfl (fun K hK=>?_) ?_
    ·go_simp
     refine hK.out _ _ ?_ (fun hHeld=>?_)
     ·(try dsimp only); (repeat' (first | exact Zi.drew | refine Zi.alloc ?_ _ | refine Zi.set ?_ (by simp) _))
     clear hK K
     (try simp only [Act.put,qA,qB,qC])
     refine wpAnyH_ready (rs:=[17]) (by kernel_rfl) (by simp) ?_;refine .cons rfl (fun K hK=>?_) ?_
     ·go_simp
      (go_at_call 78; (with_reducible refine (HT.out aregs bregs _ _ (by omega) ?_).mono ?_))
      ·(repeat (first | refine Blk.drew ?_ | exact Blk.new _ _ _ | exact Z5 _ _ _ _ | exact Zap _ _ _ _ _ | refine Blk.alloc ?_ _))
      rintro e w1 ⟨rfl,rfl⟩
      go_wp2_with fail
      refine hK.out _ _ ?_ (fun hHeld=>?_)
      ·(try dsimp only); (repeat' (first | exact Zi.drew | refine Zi.alloc ?_ _ | refine Zi.set ?_ (by simp) _))
      clear hK K
      (try simp only [Act.put,qA,qB,qC])
      refine wpAnyH_ready (rs:=[23]) (by kernel_rfl) (by simp) ?_;refine .cons rfl (fun K hK=>?_) ?_
      ·go_simp
       (go_at_call 78; (with_reducible refine (HT.out atemps btemps _ _ (by omega) ?_).mono ?_))
       ·(repeat (first | refine Blk.drew ?_ | exact Blk.new _ _ _ | exact Z5 _ _ _ _ | exact Zap _ _ _ _ _ | refine Blk.alloc ?_ _))
       rintro e w1 ⟨rfl,rfl⟩
       go_wp2_with fail
       refine hK.out _ _ ?_ (fun hHeld=>?_)
       ·(try dsimp only); (repeat' (first | exact Zi.drew | refine Zi.alloc ?_ _ | refine Zi.set ?_ (by simp) _))
       clear hK K
       (try simp only [Act.put,qA,qB,qC])
       refine wpAnyH_ready (rs:=[24]) (by kernel_rfl) (by simp) ?_;refine .cons rfl (fun K hK=>?_) ?_
       ·go_simp
        refine hK.out _ _ ?_ (fun hHeld=>?_)
        ·(try dsimp only); (repeat' (first | exact Zi.drew | refine Zi.alloc ?_ _ | refine Zi.set ?_ (by simp) _))
        clear hK K
        (try simp only [Act.put,qA,qB,qC])
        refine wpAnyH_ready (rs:=[26]) (by kernel_rfl) (by simp) ?_;refine .cons rfl (fun K hK=>?_) ?_
        ·go_simp
         refine hK.out _ _ ?_ (fun hHeld=>?_)
         ·(try dsimp only); (repeat' (first | exact Zi.drew | refine Zi.alloc ?_ _ | refine Zi.set ?_ (by simp) _))
         clear hK K
         (try simp only [Act.put,qA,qB,qC])
         refine wpAnyH_done (by kernel_rfl) ?_ _
         go_wp2
         go_meet;exact ⟨_,rfl,Lh (by omega),Lh (by repeat (first | exact Below.refl _ _ | refine Below.drew ?_ | refine Below.alloc ?_ (by first | (simp; done) | (simp; omega)) _)),Lh (by repeat (first | refine Blk.drew ?_ | exact Blk.new _ _ _ | exact Z5 _ _ _ _ | exact Zap _ _ _ _ _ | refine Blk.alloc ?_ _))⟩
        exact .nil
       exact .nil
      exact .nil
     exact .nil
    exact .nil
   exact .nil
  exact .nil
 obtain ⟨q,rfl,HQ,HB3,HR3⟩:=hcut;have a2:=(ZbT HB3.out).1;have e1'':=(a2 _ 1 z2').trans e1';have c2':=(a2 _ 2 gl).trans c2;have c3':=(a2 _ 3 gl).trans c3;have d2':=(a2 _ 2 hl).trans d2;have d3':=(a2 _ 3 hl).trans d3;have gr:=HR3.out;obtain ⟨x0,x1,x2,x3⟩:=gr.c4;simp at x0 x1 x2 x3;obtain ⟨f0,f1,f2,f3⟩:=gr.z4;have grl:=gr.lt
 have HYD2:Blk wc (w.heap.size+1) 102 ZaU:=((HYD.out.below HB.out (by omega)).below HB3.out z3')
 have HKW:Below w.heap.size w wc:=(HK1.out.trans (HB.out.mono (by omega))).trans (HB3.out.mono (by omega));have HY2:=HYD2;simp only [ZaU] at HY2;obtain ⟨p0,p1,p2,p3⟩:=HY2.c4;simp at p0 p1 p2 p3;obtain ⟨y0,y1,y2,y3⟩:=HY2.z4;have yl:=HYD2.lt;have HY:=Lh HYD2;have HKK:=Lh HKW
 have hqn:¬ q=w.heap.size+1:=by have:=HQ.out; omega
 have hqn2:¬ w.heap.size+1=q:=fun h=>hqn h.symm;have hbs3:=HB3.out.size
 have hqw:w.heap.size≤q:=by have:=HQ.out; omega
 have gl3:g < wc.heap.size:=by omega
 have hl3:h < wc.heap.size:=by omega
 have hgq:¬ g=q:=by have:=HQ.out; omega
 have hhq:¬ h=q:=by have:=HQ.out; omega
 have w3l:w.heap.size < wc.heap.size:=by omega
 clear gr HYD2 HY2 HKW a2 e0' e1' hq0' c0 c1 c2 c3 d0 d1 d2 d3 HA HH HB HQ
 obtain ⟨RG,hRG⟩:∃ x:Nat,max aregs bregs=x:=⟨_,rfl⟩
 obtain ⟨TM,hTM⟩:∃ x:Nat,max atemps btemps=x:=⟨_,rfl⟩
 obtain ⟨SF,hSF⟩:∃ x:Bool,(asafe && bsafe && qb)=x:=⟨_,rfl⟩
 have HHG:=Lh hRG;rw [hRG,hTM,hSF] at HRJ HR3;rw [hRG] at x2;rw [hTM] at x3;rw [hSF] at x1;clear hRG hTM hSF hqb
 obtain ⟨O,hO⟩:∃ K:Int,(o:Int)=K:=⟨_,rfl⟩
 rw [hO] at e1'' ⊢;have HOO:=Lh hO;clear hO hoI;have fin:∀ (W:World) (r:ZdF),Blk W (w.heap.size+1) 102 ZaU→Below w.heap.size w W→Blk ((((W.setCell ⟨w.heap.size+1,0,none⟩ (.bool r.ok)).setCell ⟨w.heap.size+1,1,none⟩ (.bool r.safe)).setCell ⟨w.heap.size+1,2,none⟩ (.int .i64 r.regs)).setCell ⟨w.heap.size+1,3,none⟩ (.int .i64 r.temps)) (w.heap.size+1) 102 r.cells∧Below w.heap.size w ((((W.setCell ⟨w.heap.size+1,0,none⟩ (.bool r.ok)).setCell ⟨w.heap.size+1,1,none⟩ (.bool r.safe)).setCell ⟨w.heap.size+1,2,none⟩ (.int .i64 r.regs)).setCell ⟨w.heap.size+1,3,none⟩ (.int .i64 r.temps)):=fun W r h1 h2=>Zei r h1 h2;have FIN:=Lh fin;clear fin
 by_cases h20:O=20
 ·subst h20
  obtain rfl:R=⟨true,SF,RG,TM⟩:=by rw [HRJ.out,if_pos (.inl (by have:=HOO.out; omega))]
  go_wp2
  obtain ⟨x1,x2⟩:=FIN.out wc ⟨true,SF,RG,TM⟩ HY.out HKK.out;exact Zby rfl _ w _ (w.heap.size+1) ⟨true,SF,RG,TM⟩ rfl x1 x2
 by_cases h21:O=21
 ·subst h21
  obtain rfl:R=⟨true,SF,RG,TM⟩:=by rw [HRJ.out,if_pos (.inr (.inl (by have:=HOO.out; omega)))]
  go_wp2
  obtain ⟨x1,x2⟩:=FIN.out wc ⟨true,SF,RG,TM⟩ HY.out HKK.out;exact Zby rfl _ w _ (w.heap.size+1) ⟨true,SF,RG,TM⟩ rfl x1 x2
 have b20:(O == 20)=false:=by simpa using h20
 have b21:(O == 21)=false:=by simpa using h21
 have hnb:¬ ((aregs:Int)=bregs) ↔ ¬ aregs=bregs:=by omega
 by_cases hr:aregs=bregs
 ·by_cases h3:aregs < 3
  ·obtain rfl:R=⟨true,SF,RG+1,TM⟩:=by
    have:=HOO.out;rw [HRJ.out,if_neg (by omega),if_pos h3]
   have h3I:(aregs:Int) < 3:=by omega
   have hrI:((aregs:Int) == bregs)=true:=by simp; omega
   have hrn:((aregs:Int) != bregs)=false:=by simp; omega
   clear hnb
   have hg3:(RG:Int)≤3:=by have:=HHG.out; omega
   have hg1:((RG+1:Nat):Int)=(RG:Int)+1:=by omega
   have HG1:=Lh hg1;clear hg1
   go_wp2
   rw [← HG1.out];obtain ⟨x1,x2⟩:=FIN.out (wc.setCell ⟨q,2,none⟩ (.int .i64 (RG+1:Nat))) ⟨true,SF,RG+1,TM⟩ (HY.out.far hqn2 _) (HKK.out.setCell (by omega) _);exact Zby rfl _ w _ (w.heap.size+1) ⟨true,SF,RG+1,TM⟩ rfl x1 x2
  ·obtain ⟨T2,hT2⟩:∃ x:Nat,max btemps (atemps+1)=x:=⟨_,rfl⟩
   obtain rfl:R=⟨true,SF,RG,T2⟩:=by
    have:=HOO.out;rw [HRJ.out,if_neg (by omega),if_neg h3,hT2]
   have h3I:¬ (aregs:Int) < 3:=by omega
   have hrI:((aregs:Int) == bregs)=true:=by simp; omega
   have hrn:((aregs:Int) != bregs)=false:=by simp; omega
   have ht2:(atemps:Int)≤1000:=by omega
   clear hnb
   have HT2:Hid (∀ w':World,Calls Tryz.prog 78 #[.int .i64 btemps,.slice (some ⟨w'.heap.size,0,none⟩) 1 1] (w'.alloc (.cells #[.int .i64 ((atemps:Int)+1)] 3)) (ZqS (.int .i64 T2) (w'.alloc (.cells #[.int .i64 ((atemps:Int)+1)] 3)))):=Lh fun w'=>by
    have h:=HT.out btemps (atemps+1) w'.heap.size _ (by omega) (Blk.new w' 3 #[.int .i64 ((atemps+1:Nat):Int)]);rw [hT2] at h;exact h
   clear HT hT2
   go_wp2_with first
    | (go_at_call 78; (with_reducible refine (HT2.out _).mono ?_); rintro e w1 ⟨rfl,rfl⟩)
   obtain ⟨x1,x2⟩:=FIN.out (wc.setCell ⟨q,3,none⟩ (.int .i64 T2)) ⟨true,SF,RG,T2⟩ (HY.out.far hqn2 _) (HKK.out.setCell (by omega) _);exact Zby rfl _ w _ (w.heap.size+1) ⟨true,SF,RG,T2⟩ rfl (x1.alloc _) (x2.alloc x2.size _)
 ·obtain rfl:R=⟨true,SF,RG,TM⟩:=by rw [HRJ.out,if_pos (.inr (.inr hr))]
  have hrI:((aregs:Int) == bregs)=false:=by simp; omega
  have hrn:((aregs:Int) != bregs)=true:=by simp; omega
  clear hnb
  go_wp2
  obtain ⟨x1,x2⟩:=FIN.out wc ⟨true,SF,RG,TM⟩ HY.out HKK.out;exact Zby rfl _ w _ (w.heap.size+1) ⟨true,SF,RG,TM⟩ rfl x1 x2
end Go.Proofs.YtjndhfcfcedheaaGreatDoor
