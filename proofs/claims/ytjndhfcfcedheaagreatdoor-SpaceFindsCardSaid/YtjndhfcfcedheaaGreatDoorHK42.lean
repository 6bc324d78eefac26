/- Texts that belong together: KY. -/
import Derived.Test.YtjndhfcfcedheaaGreatDoorHK41
set_option linter.unusedVariables false
set_option linter.unusedSimpArgs false
set_option maxRecDepth 100000
set_option maxHeartbeats 16000000
namespace Go.Proofs.YtjndhfcfcedheaaGreatDoor
open Go.RowKit
structure Zpg (W:World) (B bc x1 x2:Nat) (k:KK) (n:Int) (ps:Array Value):Prop where
 chk:Chk W B bc k n
 cb:Blk W x1 95 #[.pointer (some ⟨bc,0,none⟩)]
 pb:Blk W x2 31 ps
theorem Zpg.call {W W1:World} {B bc x1 x2:Nat} {k:KK} {n:Int} {ps:Array Value} (h:Zpg W B bc x1 x2 k n ps) (hb:Below W.heap.size W W1):Zpg W1 B bc x1 x2 k n ps:=⟨h.chk.call hb,h.cb.call hb,h.pb.call hb⟩
theorem kCh1 (k:KK) (n:Int) (p:KP) (g:KG) (B bc x1 x2:Nat) (w:World) (hc:Zpg w B bc x1 x2 k n p.cells) (hi:g.One w B) :
  Calls Tryz.prog 94 #[.agg g.flat,.pointer (some ⟨x1,0,none⟩),.pointer (some ⟨x2,0,none⟩)] w (Zu (.bool (!ZR k.vars k.chans.length (p.kind == 12) g)) w):=by
 obtain ⟨W0,hW0⟩:∃ W,w.alloc (.cells g.flat 109)=W:=⟨_,rfl⟩
 have b0:Blk W0 w.heap.size 109 g.flat:=by rw [← hW0]; exact Blk.new w _ _
 have K0:Below w.heap.size w W0:=by rw [← hW0]; exact (Below.refl _ _).alloc (Nat.le_refl _) _
 have hc0:=hc.call K0;have HK0:=Lh K0;have HG:=Lh (ZpV k n g (p.kind == 12) B bc W0 hc0.chk (hi.below (K0.mono hc.chk.leB)));have y1:=hc0.cb.cell 0;have y2:=hc0.pb.cell 0
 simp [KP.cells] at y1 y2
 have hk:((p.kind:Int) == 12)=(p.kind == 12):=by rw [Bool.eq_iff_iff]; simp; omega
 generalize ZR k.vars k.chans.length (p.kind == 12) g=gb at *;generalize (p.kind == 12)=d at *;simp only [KG.flat] at hW0 b0 HG ⊢;have e0:=b0.cell 0;have e1:=b0.cell 1;have e2:=b0.cell 2;have e3:=b0.cell 3;have e4:=b0.cell 4;have e5:=b0.cell 5;have e6:=b0.cell 6;have e7:=b0.cell 7;have e8:=b0.cell 8;have e9:=b0.cell 9;have e10:=b0.cell 10;have e11:=b0.cell 11;have e12:=b0.cell 12;have e13:=b0.cell 13;have e14:=b0.cell 14;have e15:=b0.cell 15;have e16:=b0.cell 16;have e17:=b0.cell 17;simp at e0 e1 e2 e3 e4 e5 e6 e7 e8 e9 e10 e11 e12 e13 e14 e15 e16 e17;clear b0 K0 hc0 hc hi;go_enter Tryz.func94,Tryz.ntmps94
 go_wp2_with (go_at_call 95; (with_reducible refine HG.out.mono ?_); rintro e1 w1 ⟨rfl,hb1⟩)
 go_ret;exact ⟨rfl,HK0.out.trans (hb1.mono HK0.out.size)⟩
def RetGi (R:Bool) (w:World) (e:Ending) (w':World):Prop:=Below w.heap.size w w'∧∃ i:Int,e = .returned (.int .i64 i)∧(R=true∧i = -1∨R=false∧0≤i)
theorem ZoO (k:KK) (n:Int) (p:KP) (B bc x1 x2:Nat) (w:World) (hc:Zpg w B bc x1 x2 k n p.cells) (hi:p.One w B) :
  Calls Tryz.prog 104 #[.slice p.Ag p.g.length p.cg,.func (.func 94) #[] #[.pointer (some ⟨x1,0,none⟩),.pointer (some ⟨x2,0,none⟩)]] w (RetGi (p.g.all (ZR k.vars k.chans.length (p.kind == 12))) w):=by
 have hlen:=hi.1.2.2.2.2.1;unfold ZB at hlen;have HI:=Lh (fun (w1:World) (hb:Below w.heap.size w w1)=>hi.below (hb.mono hc.chk.leB));have HS:=Lh hc
 have HAL:Hid (∀ j x,p.g[j]? = some x→(p.g.take j).all (ZR k.vars k.chans.length (p.kind == 12))=true→(ZR k.vars k.chans.length (p.kind == 12) x=false→p.g.all (ZR k.vars k.chans.length (p.kind == 12))=false)∧(ZR k.vars k.chans.length (p.kind == 12) x=true→(p.g.take (j+1)).all (ZR k.vars k.chans.length (p.kind == 12))=true)):=Lh (by
  intro j x hx ha;refine ⟨fun hf=>?_,fun ht=>?_⟩
  ·rw [List.all_eq_false];exact ⟨x,List.mem_of_getElem? hx,by rw [hf]; simp⟩
  ·rw [List.take_add_one,hx,Option.toList_some,List.all_append,ha]
   simp [ht])
 have HRE:Hid (∀ j,p.g.length≤j→(p.g.take j).all (ZR k.vars k.chans.length (p.kind == 12))=true→p.g.all (ZR k.vars k.chans.length (p.kind == 12))=true):=Lh (by
  intro j hj ha
  rwa [List.take_of_length_le hj] at ha)
 generalize hGB:ZR k.vars k.chans.length (p.kind == 12)=GB at *;have HGB:=Lh hGB;generalize p.g.all GB=R at *
 obtain ⟨m,hm⟩:∃ m,p.g.length=m:=⟨_,rfl⟩
 have HM:=Lh hm;rw [hm] at hlen ⊢;clear hc hi hGB hm
 by_cases hm0:m=0
 ·subst hm0;have HXX:=Lh (HRE.out 0 (by rw [HM.out]; omega) (by simp));go_enter Tryz.func104,Tryz.ntmps104
  go_wp2_with fail
  go_loopw [8] (fun i wr=>i = .int .i64 0∧wr=w) (fun i _=>0)
  case atStart=>exact ⟨rfl,rfl⟩
  case round =>
   obtain ⟨rfl,rfl⟩:=hrel
   go_wp2
   go_ret;exact ⟨Below.refl _ _,-1,rfl,.inl ⟨HXX.out,rfl⟩⟩
 obtain ⟨b,off,g0,hA,-,-,-,-⟩:=Zb7 (HI.out w (Below.refl _ _)).2.2.2.1.1 rfl (k:=0) (by rw [HM.out]; omega);have HA0:=Lh hA;rw [hA];clear hA;go_enter Tryz.func104,Tryz.ntmps104
 go_wp2_with fail
 go_loopw [8] (fun i wr=>∃ j:Nat,j≤m∧i = .int .i64 j∧Hid (Below w.heap.size w wr)∧Hid ((p.g.take j).all GB=true)) (fun i _=>m - (intOf i).toNat)
 case atStart=>exact ⟨0,Nat.zero_le _,rfl,Lh (Below.refl _ _),Lh (by simp)⟩
 case round =>
  obtain ⟨j,hj,rfl,K,HA⟩:=hrel
  by_cases hlt:j < m
  ·have hltI:(j:Int) < m:=by omega
   have hin:=HI.out wr K.out;obtain ⟨b',off',x,hA,hb,hx,hmx,hG⟩:=Zb7 hin.2.2.2.1.1 rfl (k:=j) (by rw [HM.out]; exact hlt);have hA3:=HA0.out.symm.trans hA
   injection hA3 with hA3
   injection hA3 with ha1 ha2
   subst ha1 ha2;have HC:=Lh (kCh1 k n p x B bc x1 x2 wr (HS.out.call K.out) (hin.2.2.2.1.2 x hmx))
   have hgb:ZR k.vars k.chans.length (p.kind == 12) x=GB x:=by rw [HGB.out]
   rw [hgb] at HC;have HX:=Lh (HAL.out j x hx HA.out);simp only [KG.flat] at HC;have r0:=hG.c0;have r1:=hG.c1;have r2:=hG.c2;have r3:=hG.c3;have r4:=hG.c4;have r5:=hG.c5;have r6:=hG.c6;have r7:=hG.c7;have r8:=hG.c8;have r9:=hG.c9;have r10:=hG.c10;have r11:=hG.c11;have r12:=hG.c12;have r13:=hG.c13;have r14:=hG.c14;have r15:=hG.c15;have r16:=hG.c16;have r17:=hG.c17;generalize GB x=gb at *;clear hin hx hmx hA hG hgb HA
   cases gb with
   | false =>
     have HXX:=Lh (HX.out.1 rfl)
     go_wp2_with (go_at_call 94; (with_reducible refine HC.out.mono ?_); rintro e1 w1 ⟨rfl,hb1⟩)
     go_ret;exact ⟨K.out.trans (hb1.mono K.out.size),j,rfl,.inr ⟨HXX.out,by omega⟩⟩
   | true =>
     have HXX:=Lh (HX.out.2 rfl)
     go_wp2_with (go_at_call 94; (with_reducible refine HC.out.mono ?_); rintro e1 w1 ⟨rfl,hb1⟩)
     go_roundw
     case rel=>exact ⟨j+1,by omega,by go_num,Lh (K.out.trans (hb1.mono K.out.size)),HXX⟩
     case measure=>simp [intOf]; omega
  ·have hltI:¬ (j:Int) < m:=by omega
   obtain rfl:m=j:=by omega
   have HXX:=Lh (HRE.out m (Nat.le_of_eq HM.out) HA.out)
   go_wp2
   go_ret;exact ⟨K.out,-1,rfl,.inl ⟨HXX.out,rfl⟩⟩
theorem Zj1 (k:KK) (n:Int) (p:KP) (B bc x1 x2:Nat) (w:World) (hc:Zpg w B bc x1 x2 k n p.cells) (hi:p.One w B) :
  Calls Tryz.prog 93 #[.slice p.Ag p.g.length p.cg,.func (.func 94) #[] #[.pointer (some ⟨x1,0,none⟩),.pointer (some ⟨x2,0,none⟩)]] w (Zu (.bool (!p.g.all (ZR k.vars k.chans.length (p.kind == 12)))) w):=by
 have HC:=Lh (ZoO k n p B bc x1 x2 w hc hi);generalize p.g.all (ZR k.vars k.chans.length (p.kind == 12))=R at *;generalize p.g.length=m at *;clear hc hi;go_enter Tryz.func93,Tryz.ntmps93
 go_wp2_with (go_at_call 104; (with_reducible refine HC.out.mono ?_); rintro e w1 ⟨hu,i,rfl,hR⟩
              have HU:=Lh hu;have HR:=Lh hR
              clear hu hR)
 go_ret;refine ⟨?_,HU.out⟩
 rcases HR.out with ⟨h1,h2⟩ | ⟨h1,h2⟩
 ·rw [h1,h2]; rfl
 ·rw [h1]; simpa using h2
end Go.Proofs.YtjndhfcfcedheaaGreatDoor
