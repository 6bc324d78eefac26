/- Texts that belong together: KRM. -/
import Derived.Test.YtjndhfcfcedheaaGreatDoorHK30
set_option linter.unusedVariables false
set_option linter.unusedSimpArgs false
set_option maxRecDepth 100000
set_option maxHeartbeats 16000000
namespace Go.Proofs.YtjndhfcfcedheaaGreatDoor
open Go.RowKit
theorem Zmv (k:KK) (p:KP) (hkd:p.kind≠3∧p.kind≠4∧p.kind≠5∧p.kind≠6∧p.kind≠7∧p.kind≠8∧p.kind≠13) (B:Nat) (w:World) (hk:k.In w B) (ok:KOk k) (hi:p.One w B) (hB:B≤w.heap.size) :
  Calls Tryz.prog 64 #[.agg k.flat,.agg p.cells] w (Zu (.bool (p.g.all (ZR k.vars k.chans.length (p.kind == 12)))) w):=by
 obtain ⟨W0,hW0⟩:∃ W,(w.alloc (.cells k.flat 34)).alloc (.cells p.cells 31)=W:=⟨_,rfl⟩
 obtain ⟨l1,l2,l3⟩:=Zf8 w k.flat p.cells 34 31;rw [hW0] at l1 l2 l3
 have HW:Hid (∀ w1:World,Below w.heap.size w w1→k.In w1 B∧p.One w1 B∧B≤w1.heap.size):=Lh fun w1 hb=>⟨hk.below (hb.mono hB),hi.below (hb.mono hB),Nat.le_trans hB hb.size⟩
 have y3:((p.kind:Int) == 3)=false:=by simp; omega
 have y4:((p.kind:Int) == 4)=false:=by simp; omega
 have y5:((p.kind:Int) == 5)=false:=by simp; omega
 have y6:((p.kind:Int) == 6)=false:=by simp; omega
 have y7:((p.kind:Int) == 7)=false:=by simp; omega
 have y8:((p.kind:Int) == 8)=false:=by simp; omega
 have y13:((p.kind:Int) == 13)=false:=by simp; omega
 have hlen:=hi.1.2.2.2.2.1;unfold ZB at hlen
 obtain ⟨m,hm⟩:∃ m,p.g.length=m:=⟨_,rfl⟩
 have HM:=Lh hm;rw [hm] at hlen;simp only [KK.flat,KP.cells,hm] at l2 l3 hW0 ⊢;have S0:Hid (Zn5 w W0 #[.slice k.Av k.vars.length k.cv,.slice k.Ac k.chans.length k.cc,.int .u8 k.root.kind,.int .i64 k.root.c,.int .i64 k.root.v,.int .u8 k.root.item,.slice k.root.At k.root.tos.length k.root.ct,.slice k.root.Ae k.root.e.length k.root.ce,.slice k.root.Ag k.root.g.length k.root.cg,.slice k.root.Al k.root.l.length k.root.cl,.slice k.Ap k.procs.length k.cp] #[.int .u8 p.kind,.int .i64 p.c,.int .i64 p.v,.int .u8 p.item,.slice p.At p.tos.length p.ct,.slice p.Ae p.e.length p.ce,.slice p.Ag m p.cg,.slice p.Al p.l.length p.cl]):=Lh ⟨l1,l2,l3⟩;obtain ⟨q0,q1,q2,q3,q4,q5,q6,q7,q8,q9,q10⟩:=l2.c11;simp at q0 q1 q2 q3 q4 q5 q6 q7 q8 q9 q10;obtain ⟨e0,e1,e2,e3,e4,e5,e6,e7⟩:=l3.c8;simp at e0 e1 e2 e3 e4 e5 e6 e7
 have HR0:Hid (∀ j x,p.g[j]? = some x→(p.g.take j).all (ZR k.vars k.chans.length (p.kind == 12))=true→(ZR k.vars k.chans.length (p.kind == 12) x=false→p.g.all (ZR k.vars k.chans.length (p.kind == 12))=false)∧(ZR k.vars k.chans.length (p.kind == 12) x=true→(p.g.take (j+1)).all (ZR k.vars k.chans.length (p.kind == 12))=true)):=Lh (by
  intro j x hx ha;refine ⟨fun hf=>?_,fun ht=>?_⟩
  ·rw [List.all_eq_false];exact ⟨x,List.mem_of_getElem? hx,by rw [hf]; simp⟩
  ·rw [List.take_add_one,hx,Option.toList_some,List.all_append,ha]
   simp [ht])
 have HRE:Hid (∀ j,p.g.length≤j→(p.g.take j).all (ZR k.vars k.chans.length (p.kind == 12))=true→p.g.all (ZR k.vars k.chans.length (p.kind == 12))=true):=Lh (by
  intro j hj ha
  rwa [List.take_of_length_le hj] at ha)
 generalize hGB:ZR k.vars k.chans.length (p.kind == 12)=GB at *;have HGB:=Lh hGB;generalize p.g.all GB=R at *;clear l1 l2 l3 hk hi hkd hGB hm;go_enter Tryz.func64,Tryz.ntmps64
 go_wp2_with fail
 go_loopw [7] (fun i wr=>∃ j:Nat,j≤m∧i = .int .i64 j∧Hid (Zn5 w wr #[.slice k.Av k.vars.length k.cv,.slice k.Ac k.chans.length k.cc,.int .u8 k.root.kind,.int .i64 k.root.c,.int .i64 k.root.v,.int .u8 k.root.item,.slice k.root.At k.root.tos.length k.root.ct,.slice k.root.Ae k.root.e.length k.root.ce,.slice k.root.Ag k.root.g.length k.root.cg,.slice k.root.Al k.root.l.length k.root.cl,.slice k.Ap k.procs.length k.cp] #[.int .u8 p.kind,.int .i64 p.c,.int .i64 p.v,.int .u8 p.item,.slice p.At p.tos.length p.ct,.slice p.Ae p.e.length p.ce,.slice p.Ag m p.cg,.slice p.Al p.l.length p.cl])∧Hid ((p.g.take j).all GB=true)) (fun i _=>m - (intOf i).toNat)
 case atStart=>exact ⟨0,Nat.zero_le _,rfl,S0,Lh (by simp)⟩
 case round =>
  clear S0 q0 q1 q2 q3 q4 q5 q6 q7 q8 q9 q10 e0 e1 e2 e3 e4 e5 e6 e7;obtain ⟨j,hj,rfl,S,HA⟩:=hrel;have x1:=S.out.kb;have x2:=S.out.pb;have hkw:=x1.lt;have hpw:=x2.lt;obtain ⟨q0,q1,q2,q3,q4,q5,q6,q7,q8,q9,q10⟩:=x1.c11;simp at q0 q1 q2 q3 q4 q5 q6 q7 q8 q9 q10;obtain ⟨e0,e1,e2,e3,e4,e5,e6,e7⟩:=x2.c8;simp at e0 e1 e2 e3 e4 e5 e6 e7;clear x1 x2
  by_cases hlt:j < m
  ·have hltI:(j:Int) < m:=by omega
   have hin:=HW.out wr S.out.bel;obtain ⟨b,off,x,hA,hb,hx,hm',hG⟩:=Zb7 hin.2.1.2.2.2.1.1 rfl (k:=j) (by rw [HM.out]; exact hlt);have hbw:b < wr.heap.size:=Nat.lt_of_lt_of_le hb hin.2.2;rw [hA] at e6
   have HC:Hid (∀ w1:World,Below wr.heap.size wr w1→Calls Tryz.prog 85 #[.agg k.flat,.int .u8 p.kind,.agg x.flat] w1 (Zu (.bool (GB x)) w1)):=Lh fun w1 h=>by
    have h1:=HW.out w1 (S.out.bel.trans (h.mono S.out.bel.size));rw [← HGB.out];exact ZmI k p.kind x B w1 h1.1 ok (h1.2.1.2.2.2.1.2 x hm') h1.2.2
   have HX:=Lh (HR0.out j x hx HA.out);obtain ⟨c0,c1,c2,c3,c4,c5,c6,c7,c8,c9,c10,c11,c12,c13,c14,c15,c16,c17⟩:=hG;simp only [KK.flat,KG.flat] at HC;generalize hgb:GB x=gb at *;clear hin hx hm' hA hgb
   go_upto_region 24 with fail
   obtain ⟨ι,F,i0',h0',hFb,hcl⟩:=ZC wr;have Fq0:=famc hFb q0 hkw;have Fq1:=famc hFb q1 hkw;have Fq2:=famc hFb q2 hkw;have Fq3:=famc hFb q3 hkw;have Fq4:=famc hFb q4 hkw;have Fq5:=famc hFb q5 hkw;have Fq6:=famc hFb q6 hkw;have Fq7:=famc hFb q7 hkw;have Fq8:=famc hFb q8 hkw;have Fq9:=famc hFb q9 hkw;have Fq10:=famc hFb q10 hkw;have Fe0:=famc hFb e0 hpw;have Fe1:=famc hFb e1 hpw;have Fe2:=famc hFb e2 hpw;have Fe3:=famc hFb e3 hpw;have Fe4:=famc hFb e4 hpw;have Fe5:=famc hFb e5 hpw;have Fe6:=famc hFb e6 hpw;have Fe7:=famc hFb e7 hpw;have Fc0:=famc hFb c0 hbw;have Fc1:=famc hFb c1 hbw;have Fc2:=famc hFb c2 hbw;have Fc3:=famc hFb c3 hbw;have Fc4:=famc hFb c4 hbw;have Fc5:=famc hFb c5 hbw;have Fc6:=famc hFb c6 hbw;have Fc7:=famc hFb c7 hbw;have Fc8:=famc hFb c8 hbw;have Fc9:=famc hFb c9 hbw;have Fc10:=famc hFb c10 hbw;have Fc11:=famc hFb c11 hbw;have Fc12:=famc hFb c12 hbw;have Fc13:=famc hFb c13 hbw;have Fc14:=famc hFb c14 hbw;have Fc15:=famc hFb c15 hbw;have Fc16:=famc hFb c16 hbw;have Fc17:=famc hFb c17 hbw;have HCF:=Lh (fun i=>HC.out (F i) (hFb i))
   haveI:Nonempty ι:=⟨i0'⟩
   refine Zb F i0' h0' (by kernel_rfl) (by kernel_rfl) ?_
   repeat (go_big_quiet_step (first
    | (go_at_call 85; refine (HCF.out _).mono ?_; rintro e w4 ⟨rfl,hb4⟩; exact ⟨rfl,hcl _ _ hb4⟩)))
   refine wpQuiet_nil ?_;intro i;have S5:=Lh (S.out.call (hFb i));clear HCF Fq0 Fq1 Fq2 Fq3 Fq4 Fq5 Fq6 Fq7 Fq8 Fq9 Fq10 Fe0 Fe1 Fe2 Fe3 Fe4 Fe5 Fe6 Fe7 q0 q1 q2 q3 q4 q5 q6 q7 q8 q9 q10 e0 e1 e2 e3 e4 e5 e6 e7;clear Fc0 Fc1 Fc2 Fc3 Fc4 Fc5 Fc6 Fc7 Fc8 Fc9 Fc10 Fc11 Fc12 Fc13 Fc14 Fc15 Fc16 Fc17 c0 c1 c2 c3 c4 c5 c6 c7 c8 c9 c10 c11 c12 c13 c14 c15 c16 c17
   cases gb
   ·have HXX:=Lh (HX.out.1 rfl)
    go_wp2
    go_ret;exact ⟨by refine Za rfl ?_; rw [HXX.out],S5.out.bel⟩
   ·have HXX:=Lh (HX.out.2 rfl)
    go_wp2
    go_roundw
    case rel=>exact ⟨j+1,by omega,by go_num,S5,HXX⟩
    case measure=>simp [intOf]; omega
  ·have hltI:¬ (j:Int) < m:=by omega
   have HXX:=Lh (HRE.out j (by rw [HM.out]; omega) HA.out)
   go_wp2
   go_ret;exact ⟨by refine Za rfl ?_; rw [HXX.out],S.out.bel⟩
end Go.Proofs.YtjndhfcfcedheaaGreatDoor
