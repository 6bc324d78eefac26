/- Texts that belong together: KRR KRS. -/
import Derived.Test.YtjndhfcfcedheaaGreatDoorHK32
set_option linter.unusedVariables false
set_option linter.unusedSimpArgs false
set_option maxRecDepth 100000
set_option maxHeartbeats 16000000
namespace Go.Proofs.YtjndhfcfcedheaaGreatDoor
open Go.RowKit
theorem Zou (k:KK) (ok:KOk k) (p:KP) (hil:∀ x∈p.l,Zf6 k x) (hig:∀ g∈p.g,∀ x∈g.body,Zf6 k x) (deep n:Nat) (B:Nat) (w:World) (hd:deep < 32) (hn:n≤2048) (hn0:n≠0) (hk:k.In w B) (hi:p.In w B) (hB:B≤w.heap.size)
  (hl:ZbC p=true) (ht:Zd6 k.vars k.chans.length p=true) (h11:p.kind≠11) :
  Calls Tryz.prog 49 #[.agg (ZA k deep true),.agg p.cells,.int .i64 n] w (Zu (.int .i64 (Zam (ZaD k.vars k.chans.length (deep+1) true (Zn k.vars k.chans.length (deep+1) true false (n - 1) p.l) p.g))) w):=by
 obtain ⟨W0,hW0⟩:∃ W,(w.alloc (.cells (ZA k deep true) 113)).alloc (.cells p.cells 31)=W:=⟨_,rfl⟩
 obtain ⟨l1,l2,l3⟩:=Zf8 w (ZA k deep true) p.cells 113 31;rw [hW0] at l1 l2 l3
 have HW:Hid (∀ w1:World,Below w.heap.size w w1→k.In w1 B∧p.In w1 B∧B≤w1.heap.size):=Lh fun w1 hb=>⟨hk.below (hb.mono hB),hi.below (hb.mono hB),Nat.le_trans hB hb.size⟩
 have hone:=hi.one.1;have hlen:=hone.2.2.2.2.2;have hlen2:=hone.2.2.2.2.1;unfold ZB at hlen hlen2
 obtain ⟨m,hm⟩:∃ m,p.l.length=m:=⟨_,rfl⟩
 obtain ⟨mg,hmg⟩:∃ m,p.g.length=m:=⟨_,rfl⟩
 have HM:=Lh hm;have HMG:=Lh hmg;rw [hm] at hlen;rw [hmg] at hlen2;have S:Hid (ZgP w W0 (ZA k deep true) p.cells):=Lh ⟨l1,l2,l3⟩;have HL:=Lh (fun w1=>ZeV p w1);have HT:=Lh (fun (w1:World) (hb:Below w.heap.size w w1)=>ZeU k p hl B w1 (HW.out w1 hb).1 ok (HW.out w1 hb).2.1.one (HW.out w1 hb).2.2)
 have y:((deep:Int) == 32)=false:=by simp; omega
 have y0:((n:Int) == 0)=false:=by simp; omega
 have y11:((p.kind:Int) == 11)=false:=by simp; omega
 rw [hl] at HL;rw [ht] at HT;have HIL:=Lh hil;have HIG:=Lh hig
 have HGB:Hid (∀ g∈p.g,∃ q,g.body=[q]):=Lh fun g hg=>by
  have hc:ZW k.vars k.chans.length p=true:=by rw [Zdx,hl,ht]; rfl
  obtain ⟨c,hgb⟩:=Z3 hc g hg;exact Zbb hgb
 have hn1:(n:Int) - 1=((n - 1:Nat):Int):=by omega
 have HN1:=Lh hn1;simp only [ZA,KP.cells,KK.flat,hm,hmg] at l2 l3 hW0 S HL HT ⊢;obtain ⟨q0,q1,q2,q3,q4,q5,q6,q7,q8,q9,q10,q11,q12⟩:=l2.c13;simp at q0 q1 q2 q3 q4 q5 q6 q7 q8 q9 q10 q11 q12;obtain ⟨e0,e1,e2,e3,e4,e5,e6,e7⟩:=l3.c8;simp at e0 e1 e2 e3 e4 e5 e6 e7;clear l1 l2 l3 hk hi hm hmg hone hl ht h11 hil hig hn1;go_enter Tryz.func49,Tryz.ntmps49
 go_upto_block 0 with (first
  | (go_at_call 63; (with_reducible refine (HL.out _).mono ?_); rintro e1 w1 ⟨rfl,hb1⟩
     replace S:=Lh (S.out.call hb1);have x1:=S.out.kb;have x2:=S.out.pb;obtain ⟨q0,q1,q2,q3,q4,q5,q6,q7,q8,q9,q10,q11,q12⟩:=x1.c13;simp at q0 q1 q2 q3 q4 q5 q6 q7 q8 q9 q10 q11 q12;obtain ⟨e0,e1,e2,e3,e4,e5,e6,e7⟩:=x2.c8;simp at e0 e1 e2 e3 e4 e5 e6 e7
     clear x1 x2 hb1)
  | (go_at_call 64; (with_reducible refine (HT.out _ S.out.bel).mono ?_); rintro e1 w1 ⟨rfl,hb1⟩
     replace S:=Lh (S.out.call hb1);have x1:=S.out.kb;have x2:=S.out.pb;obtain ⟨q0,q1,q2,q3,q4,q5,q6,q7,q8,q9,q10,q11,q12⟩:=x1.c13;simp at q0 q1 q2 q3 q4 q5 q6 q7 q8 q9 q10 q11 q12;obtain ⟨e0,e1,e2,e3,e4,e5,e6,e7⟩:=x2.c8;simp at e0 e1 e2 e3 e4 e5 e6 e7
     clear x1 x2 hb1))
 clear HL HT
 go_cut [2] (fun s2 wx=>s2 = .int .i64 (Zam (Zn k.vars k.chans.length (deep+1) true false (n - 1) p.l))∧Hid (ZgP w wx #[.slice k.Av k.vars.length k.cv,.slice k.Ac k.chans.length k.cc,.int .u8 k.root.kind,.int .i64 k.root.c,.int .i64 k.root.v,.int .u8 k.root.item,.slice k.root.At k.root.tos.length k.root.ct,.slice k.root.Ae k.root.e.length k.root.ce,.slice k.root.Ag k.root.g.length k.root.cg,.slice k.root.Al k.root.l.length k.root.cl,.slice k.Ap k.procs.length k.cp,.int .i64 deep,.bool true] #[.int .u8 p.kind,.int .i64 p.c,.int .i64 p.v,.int .u8 p.item,.slice p.At p.tos.length p.ct,.slice p.Ae p.e.length p.ce,.slice p.Ag mg p.cg,.slice p.Al m p.cl]))
 case first =>
  go_wp2_with fail
  go_loopw [2,7] (fun v i wr=>∃ (j:Nat) (so:Option Nat),j≤m∧i = .int .i64 j∧v = .int .i64 (Zam so)∧Hid (ZgP w wr #[.slice k.Av k.vars.length k.cv,.slice k.Ac k.chans.length k.cc,.int .u8 k.root.kind,.int .i64 k.root.c,.int .i64 k.root.v,.int .u8 k.root.item,.slice k.root.At k.root.tos.length k.root.ct,.slice k.root.Ae k.root.e.length k.root.ce,.slice k.root.Ag k.root.g.length k.root.cg,.slice k.root.Al k.root.l.length k.root.cl,.slice k.Ap k.procs.length k.cp,.int .i64 deep,.bool true] #[.int .u8 p.kind,.int .i64 p.c,.int .i64 p.v,.int .u8 p.item,.slice p.At p.tos.length p.ct,.slice p.Ae p.e.length p.ce,.slice p.Ag mg p.cg,.slice p.Al m p.cl])∧Hid (Zn k.vars k.chans.length (deep+1) true false (n - 1) (p.l.take j)=so)∧Hid (∀ r,so=some r→r≤2048)) (fun _ i _=>m - (intOf i).toNat)
  case atStart=>exact ⟨0,some (n - 1),Nat.zero_le _,rfl,by rw [HN1.out]; rfl,S,Lh (by rw [List.take_zero,Zn]),Lh (fun r h=>by injection h with h; omega)⟩
  case round =>
   clear S q0 q1 q2 q3 q4 q5 q6 q7 q8 q9 q10 q11 q12 e0 e1 e2 e3 e4 e5 e6 e7;obtain ⟨j,so,hj,rfl,rfl,S,HST,HRR⟩:=hrel;have x1:=S.out.kb;have x2:=S.out.pb;have hkw:=x1.lt;have hpw:=x2.lt;obtain ⟨q0,q1,q2,q3,q4,q5,q6,q7,q8,q9,q10,q11,q12⟩:=x1.c13;simp at q0 q1 q2 q3 q4 q5 q6 q7 q8 q9 q10 q11 q12;obtain ⟨e0,e1,e2,e3,e4,e5,e6,e7⟩:=x2.c8;simp at e0 e1 e2 e3 e4 e5 e6 e7;clear x1 x2
   by_cases hlt:j < m
   ·have hltI:(j:Int) < m:=by omega
    cases so with
    | none =>
      have HXX:=Lh (ZbH HST.out);simp only [Zam]
      go_wp2_with fail
      go_meet;exact ⟨by rw [HXX.out]; rfl,S⟩
    | some r =>
      have hr2:=HRR.out r rfl;have hst:=HST.out;have hin:=HW.out wr S.out.bel;obtain ⟨b,off,x,hA,hb,hx,hmx,c0,c1,c2,c3,c4,c5,c6,c7⟩:=Za4 hin.2.1.one.2.2.2.2 rfl (k:=j) (by rw [HM.out]; exact hlt);have hbw:b < wr.heap.size:=Nat.lt_of_lt_of_le hb hin.2.2;rw [hA] at e7;simp only [Zam]
      have HC:Hid (∀ w1:World,Below wr.heap.size wr w1→Calls Tryz.prog 49 #[.agg (ZA k ((deep:Int)+1) true),.agg x.cells,.int .i64 r] w1 (Zu (.int .i64 (Zam (Zx k.vars k.chans.length (deep+1) true r x))) w1)):=Lh fun w1 h=>by
       have h1:=HW.out w1 (S.out.bel.trans (h.mono S.out.bel.size));have h2:=HIL.out x hmx (deep+1) r true B w1 (by omega) hr2 h1.1 (h1.2.1.part hmx) h1.2.2
       have h3:((deep+1:Nat):Int)=(deep:Int)+1:=by omega
       rw [h3] at h2;exact h2
      have hsn:=ZaI (vs:=k.vars) (nc:=k.chans.length) (deep:=deep+1) (high:=true) (first:=false) (left:=n - 1) hx hst;have hb2:(true || (false && decide (j=0)))=true:=rfl;rw [hb2] at hsn;have HSN:Hid (Zn k.vars k.chans.length (deep+1) true false (n - 1) (p.l.take (j+1))=Zx k.vars k.chans.length (deep+1) true r x):=Lh hsn;have HRL:Hid (∀ r2,Zx k.vars k.chans.length (deep+1) true r x=some r2→r2≤r):=Lh fun r2 h=>ZaB x _ _ _ _ h;generalize Zx k.vars k.chans.length (deep+1) true r x=so2 at *;simp only [ZA,KP.cells] at HC;clear hx hmx hA hst hsn hin
      go_upto_region 7 with fail
      obtain ⟨ι,F,i0',h0',hFb,hcl⟩:=ZC wr;have Fq0:=famc hFb q0 hkw;have Fq1:=famc hFb q1 hkw;have Fq2:=famc hFb q2 hkw;have Fq3:=famc hFb q3 hkw;have Fq4:=famc hFb q4 hkw;have Fq5:=famc hFb q5 hkw;have Fq6:=famc hFb q6 hkw;have Fq7:=famc hFb q7 hkw;have Fq8:=famc hFb q8 hkw;have Fq9:=famc hFb q9 hkw;have Fq10:=famc hFb q10 hkw;have Fq11:=famc hFb q11 hkw;have Fq12:=famc hFb q12 hkw;have Fe0:=famc hFb e0 hpw;have Fe7:=famc hFb e7 hpw;have Fc0:=famc hFb c0 hbw;have Fc1:=famc hFb c1 hbw;have Fc2:=famc hFb c2 hbw;have Fc3:=famc hFb c3 hbw;have Fc4:=famc hFb c4 hbw;have Fc5:=famc hFb c5 hbw;have Fc6:=famc hFb c6 hbw;have Fc7:=famc hFb c7 hbw;have HCF:=Lh (fun i=>HC.out (F i) (hFb i))
      haveI:Nonempty ι:=⟨i0'⟩
      refine Zb F i0' h0' (by kernel_rfl) (by kernel_rfl) ?_
      repeat (go_big_quiet_step (first
       | (go_at_call 49; refine (HCF.out _).mono ?_; rintro e w4 ⟨rfl,hb4⟩; exact ⟨rfl,hcl _ _ hb4⟩)))
      refine wpQuiet_nil ?_;intro i;have S5:=Lh (S.out.call (hFb i));clear HCF
      go_wp2
      go_roundw
      case rel=>exact ⟨j+1,so2,by omega,by go_num,rfl,S5,HSN,Lh (fun r2 h=>Nat.le_trans (HRL.out r2 h) hr2)⟩
      case measure=>simp [intOf]; omega
   ·have hltI:¬ (j:Int) < m:=by omega
    obtain rfl:m=j:=by omega
    have htk:p.l.take m=p.l:=List.take_of_length_le (by rw [HM.out]; omega);have hst:=HST.out;rw [htk] at hst;have HXX:=Lh hst;clear htk hst
    go_wp2_with fail
    go_meet;exact ⟨by rw [HXX.out],S⟩
 case rest =>
  obtain ⟨rfl,S⟩:=hcut
  have HS1:Hid (∀ r,Zn k.vars k.chans.length (deep+1) true false (n - 1) p.l=some r→r≤2048):=Lh fun r h=>by have:=Zfu h; omega
  generalize Zn k.vars k.chans.length (deep+1) true false (n - 1) p.l=s1 at *;clear HIL q0 q1 q2 q3 q4 q5 q6 q7 q8 q9 q10 q11 q12 e0 e1 e2 e3 e4 e5 e6 e7
  go_wp2_with fail
  go_loopw [2,8] (fun v i wr=>∃ (j:Nat) (so:Option Nat),j≤mg∧i = .int .i64 j∧v = .int .i64 (Zam so)∧Hid (ZgP w wr #[.slice k.Av k.vars.length k.cv,.slice k.Ac k.chans.length k.cc,.int .u8 k.root.kind,.int .i64 k.root.c,.int .i64 k.root.v,.int .u8 k.root.item,.slice k.root.At k.root.tos.length k.root.ct,.slice k.root.Ae k.root.e.length k.root.ce,.slice k.root.Ag k.root.g.length k.root.cg,.slice k.root.Al k.root.l.length k.root.cl,.slice k.Ap k.procs.length k.cp,.int .i64 deep,.bool true] #[.int .u8 p.kind,.int .i64 p.c,.int .i64 p.v,.int .u8 p.item,.slice p.At p.tos.length p.ct,.slice p.Ae p.e.length p.ce,.slice p.Ag mg p.cg,.slice p.Al m p.cl])∧Hid (ZaD k.vars k.chans.length (deep+1) true s1 (p.g.take j)=so)∧Hid (∀ r,so=some r→r≤2048)) (fun _ i _=>mg - (intOf i).toNat)
  case atStart=>exact ⟨0,s1,Nat.zero_le _,rfl,rfl,S,Lh Zbx,HS1⟩
  case round =>
   clear S HS1;obtain ⟨j,so,hj,rfl,rfl,S,HST,HRR⟩:=hrel;have x1:=S.out.kb;have x2:=S.out.pb;have hkw:=x1.lt;have hpw:=x2.lt;obtain ⟨q0,q1,q2,q3,q4,q5,q6,q7,q8,q9,q10,q11,q12⟩:=x1.c13;simp at q0 q1 q2 q3 q4 q5 q6 q7 q8 q9 q10 q11 q12;obtain ⟨e0,e1,e2,e3,e4,e5,e6,e7⟩:=x2.c8;simp at e0 e1 e2 e3 e4 e5 e6 e7;clear x1 x2
   by_cases hlt:j < mg
   ·have hltI:(j:Int) < mg:=by omega
    cases so with
    | none =>
      have HXX:=Lh (Zag HST.out);simp only [Zam]
      go_wp2
      go_ret;exact ⟨by rw [HXX.out]; rfl,S.out.bel⟩
    | some r =>
      have hr2:=HRR.out r rfl;have hst:=HST.out;have hin:=HW.out wr S.out.bel;obtain ⟨b,off,g,hA,hb,hx,hmx,hG⟩:=Zb7 hin.2.1.one.2.2.2.1.1 rfl (k:=j) (by rw [HMG.out]; exact hlt);have hbw:b < wr.heap.size:=Nat.lt_of_lt_of_le hb hin.2.2;have g17:=hG.c17;obtain ⟨qq,hq⟩:=HGB.out g hmx;have hbo:=(hin.2.1.one.2.2.2.1.2 g hmx).2.2.2.2;obtain ⟨b2,off2,x,hA2,hb2,hx2,hmx2,c0,c1,c2,c3,c4,c5,c6,c7⟩:=Za4 hbo rfl (k:=0) (by rw [hq]; simp)
      have hxq:x=qq:=by rw [hq] at hx2; simpa using hx2.symm
      subst hxq;have hbw2:b2 < wr.heap.size:=Nat.lt_of_lt_of_le hb2 hin.2.2;rw [hq] at g17;rw [hA2] at g17;rw [hA] at e6;rw [Nat.zero_mul,Nat.add_zero] at c0 c1 c2 c3 c4 c5 c6 c7;simp only [List.length_singleton] at g17;simp only [Zam]
      have HC:Hid (∀ w1:World,Below wr.heap.size wr w1→Calls Tryz.prog 49 #[.agg (ZA k ((deep:Int)+1) true),.agg x.cells,.int .i64 r] w1 (Zu (.int .i64 (Zam (Zx k.vars k.chans.length (deep+1) true r x))) w1)):=Lh fun w1 h=>by
       have h1:=HW.out w1 (S.out.bel.trans (h.mono S.out.bel.size));have h2:=HIG.out g hmx x hmx2 (deep+1) r true B w1 (by omega) hr2 h1.1 (h1.2.1.guard hmx hmx2) h1.2.2
       have h3:((deep+1:Nat):Int)=(deep:Int)+1:=by omega
       rw [h3] at h2;exact h2
      have HSN:=Lh ((Zbh hx hst).trans (Zcq hq));have HRL:Hid (∀ r2,Zx k.vars k.chans.length (deep+1) true r x=some r2→r2≤r):=Lh fun r2 h=>ZaB x _ _ _ _ h;generalize Zx k.vars k.chans.length (deep+1) true r x=so2 at *;simp only [ZA,KP.cells] at HC;clear hx hmx hA hst hin hG hq hbo hx2 hmx2 hA2
      go_upto_region 11 with fail
      obtain ⟨ι,F,i0',h0',hFb,hcl⟩:=ZC wr;have Fq0:=famc hFb q0 hkw;have Fq1:=famc hFb q1 hkw;have Fq2:=famc hFb q2 hkw;have Fq3:=famc hFb q3 hkw;have Fq4:=famc hFb q4 hkw;have Fq5:=famc hFb q5 hkw;have Fq6:=famc hFb q6 hkw;have Fq7:=famc hFb q7 hkw;have Fq8:=famc hFb q8 hkw;have Fq9:=famc hFb q9 hkw;have Fq10:=famc hFb q10 hkw;have Fq11:=famc hFb q11 hkw;have Fq12:=famc hFb q12 hkw;have Fe6:=famc hFb e6 hpw;have Fg17:=famc hFb g17 hbw;have Fc0:=famc hFb c0 hbw2;have Fc1:=famc hFb c1 hbw2;have Fc2:=famc hFb c2 hbw2;have Fc3:=famc hFb c3 hbw2;have Fc4:=famc hFb c4 hbw2;have Fc5:=famc hFb c5 hbw2;have Fc6:=famc hFb c6 hbw2;have Fc7:=famc hFb c7 hbw2;have HCF:=Lh (fun i=>HC.out (F i) (hFb i))
      haveI:Nonempty ι:=⟨i0'⟩
      refine Zb F i0' h0' (by kernel_rfl) (by kernel_rfl) ?_
      repeat (go_big_quiet_step (first
       | (go_at_call 49; refine (HCF.out _).mono ?_; rintro e w4 ⟨rfl,hb4⟩; exact ⟨rfl,hcl _ _ hb4⟩)))
      refine wpQuiet_nil ?_;intro i;have S5:=Lh (S.out.call (hFb i));clear HCF
      go_wp2
      go_roundw
      case rel=>exact ⟨j+1,so2,by omega,by go_num,rfl,S5,HSN,Lh (fun r2 h=>Nat.le_trans (HRL.out r2 h) hr2)⟩
      case measure=>simp [intOf]; omega
   ·have hltI:¬ (j:Int) < mg:=by omega
    obtain rfl:mg=j:=by omega
    have htk:p.g.take mg=p.g:=List.take_of_length_le (by rw [HMG.out]; omega);have hst:=HST.out;rw [htk] at hst;have HXX:=Lh hst;clear htk hst
    go_wp2
    go_ret;exact ⟨by rw [HXX.out]; rfl,S.out.bel⟩
theorem Zow (k:KK) (ok:KOk k) (p:KP) (hil:∀ x∈p.l,Zf6 k x) (hig:∀ g∈p.g,∀ x∈g.body,Zf6 k x) (deep n:Nat) (B:Nat) (w:World) (hd:deep < 32) (hn:n≤2048) (hn0:n≠0) (hk:k.In w B) (hi:p.In w B) (hB:B≤w.heap.size)
  (hl:ZbC p=true) (ht:Zd6 k.vars k.chans.length p=true) (h11:p.kind≠11) :
  Calls Tryz.prog 49 #[.agg (ZA k deep false),.agg p.cells,.int .i64 n] w (Zu (.int .i64 (Zam (ZaD k.vars k.chans.length (deep+1) false (Zn k.vars k.chans.length (deep+1) false false (n - 1) p.l) p.g))) w):=by
 obtain ⟨W0,hW0⟩:∃ W,(w.alloc (.cells (ZA k deep false) 113)).alloc (.cells p.cells 31)=W:=⟨_,rfl⟩
 obtain ⟨l1,l2,l3⟩:=Zf8 w (ZA k deep false) p.cells 113 31;rw [hW0] at l1 l2 l3
 have HW:Hid (∀ w1:World,Below w.heap.size w w1→k.In w1 B∧p.In w1 B∧B≤w1.heap.size):=Lh fun w1 hb=>⟨hk.below (hb.mono hB),hi.below (hb.mono hB),Nat.le_trans hB hb.size⟩
 have hone:=hi.one.1;have hlen:=hone.2.2.2.2.2;have hlen2:=hone.2.2.2.2.1;unfold ZB at hlen hlen2
 obtain ⟨m,hm⟩:∃ m,p.l.length=m:=⟨_,rfl⟩
 obtain ⟨mg,hmg⟩:∃ m,p.g.length=m:=⟨_,rfl⟩
 have HM:=Lh hm;have HMG:=Lh hmg;rw [hm] at hlen;rw [hmg] at hlen2;have S:Hid (ZgP w W0 (ZA k deep false) p.cells):=Lh ⟨l1,l2,l3⟩;have HL:=Lh (fun w1=>ZeV p w1);have HT:=Lh (fun (w1:World) (hb:Below w.heap.size w w1)=>ZeU k p hl B w1 (HW.out w1 hb).1 ok (HW.out w1 hb).2.1.one (HW.out w1 hb).2.2)
 have y:((deep:Int) == 32)=false:=by simp; omega
 have y0:((n:Int) == 0)=false:=by simp; omega
 have y11:((p.kind:Int) == 11)=false:=by simp; omega
 rw [hl] at HL;rw [ht] at HT;have HIL:=Lh hil;have HIG:=Lh hig
 have HGB:Hid (∀ g∈p.g,∃ q,g.body=[q]):=Lh fun g hg=>by
  have hc:ZW k.vars k.chans.length p=true:=by rw [Zdx,hl,ht]; rfl
  obtain ⟨c,hgb⟩:=Z3 hc g hg;exact Zbb hgb
 have hn1:(n:Int) - 1=((n - 1:Nat):Int):=by omega
 have HN1:=Lh hn1;simp only [ZA,KP.cells,KK.flat,hm,hmg] at l2 l3 hW0 S HL HT ⊢;obtain ⟨q0,q1,q2,q3,q4,q5,q6,q7,q8,q9,q10,q11,q12⟩:=l2.c13;simp at q0 q1 q2 q3 q4 q5 q6 q7 q8 q9 q10 q11 q12;obtain ⟨e0,e1,e2,e3,e4,e5,e6,e7⟩:=l3.c8;simp at e0 e1 e2 e3 e4 e5 e6 e7;clear l1 l2 l3 hk hi hm hmg hone hl ht h11 hil hig hn1;go_enter Tryz.func49,Tryz.ntmps49
 go_upto_block 0 with (first
  | (go_at_call 63; (with_reducible refine (HL.out _).mono ?_); rintro e1 w1 ⟨rfl,hb1⟩
     replace S:=Lh (S.out.call hb1);have x1:=S.out.kb;have x2:=S.out.pb;obtain ⟨q0,q1,q2,q3,q4,q5,q6,q7,q8,q9,q10,q11,q12⟩:=x1.c13;simp at q0 q1 q2 q3 q4 q5 q6 q7 q8 q9 q10 q11 q12;obtain ⟨e0,e1,e2,e3,e4,e5,e6,e7⟩:=x2.c8;simp at e0 e1 e2 e3 e4 e5 e6 e7
     clear x1 x2 hb1)
  | (go_at_call 64; (with_reducible refine (HT.out _ S.out.bel).mono ?_); rintro e1 w1 ⟨rfl,hb1⟩
     replace S:=Lh (S.out.call hb1);have x1:=S.out.kb;have x2:=S.out.pb;obtain ⟨q0,q1,q2,q3,q4,q5,q6,q7,q8,q9,q10,q11,q12⟩:=x1.c13;simp at q0 q1 q2 q3 q4 q5 q6 q7 q8 q9 q10 q11 q12;obtain ⟨e0,e1,e2,e3,e4,e5,e6,e7⟩:=x2.c8;simp at e0 e1 e2 e3 e4 e5 e6 e7
     clear x1 x2 hb1))
 clear HL HT
 go_cut [2] (fun s2 wx=>s2 = .int .i64 (Zam (Zn k.vars k.chans.length (deep+1) false false (n - 1) p.l))∧Hid (ZgP w wx #[.slice k.Av k.vars.length k.cv,.slice k.Ac k.chans.length k.cc,.int .u8 k.root.kind,.int .i64 k.root.c,.int .i64 k.root.v,.int .u8 k.root.item,.slice k.root.At k.root.tos.length k.root.ct,.slice k.root.Ae k.root.e.length k.root.ce,.slice k.root.Ag k.root.g.length k.root.cg,.slice k.root.Al k.root.l.length k.root.cl,.slice k.Ap k.procs.length k.cp,.int .i64 deep,.bool false] #[.int .u8 p.kind,.int .i64 p.c,.int .i64 p.v,.int .u8 p.item,.slice p.At p.tos.length p.ct,.slice p.Ae p.e.length p.ce,.slice p.Ag mg p.cg,.slice p.Al m p.cl]))
 case first =>
  go_wp2_with fail
  go_loopw [2,7] (fun v i wr=>∃ (j:Nat) (so:Option Nat),j≤m∧i = .int .i64 j∧v = .int .i64 (Zam so)∧Hid (ZgP w wr #[.slice k.Av k.vars.length k.cv,.slice k.Ac k.chans.length k.cc,.int .u8 k.root.kind,.int .i64 k.root.c,.int .i64 k.root.v,.int .u8 k.root.item,.slice k.root.At k.root.tos.length k.root.ct,.slice k.root.Ae k.root.e.length k.root.ce,.slice k.root.Ag k.root.g.length k.root.cg,.slice k.root.Al k.root.l.length k.root.cl,.slice k.Ap k.procs.length k.cp,.int .i64 deep,.bool false] #[.int .u8 p.kind,.int .i64 p.c,.int .i64 p.v,.int .u8 p.item,.slice p.At p.tos.length p.ct,.slice p.Ae p.e.length p.ce,.slice p.Ag mg p.cg,.slice p.Al m p.cl])∧Hid (Zn k.vars k.chans.length (deep+1) false false (n - 1) (p.l.take j)=so)∧Hid (∀ r,so=some r→r≤2048)) (fun _ i _=>m - (intOf i).toNat)
  case atStart=>exact ⟨0,some (n - 1),Nat.zero_le _,rfl,by rw [HN1.out]; rfl,S,Lh (by rw [List.take_zero,Zn]),Lh (fun r h=>by injection h with h; omega)⟩
  case round =>
   clear S q0 q1 q2 q3 q4 q5 q6 q7 q8 q9 q10 q11 q12 e0 e1 e2 e3 e4 e5 e6 e7;obtain ⟨j,so,hj,rfl,rfl,S,HST,HRR⟩:=hrel;have x1:=S.out.kb;have x2:=S.out.pb;have hkw:=x1.lt;have hpw:=x2.lt;obtain ⟨q0,q1,q2,q3,q4,q5,q6,q7,q8,q9,q10,q11,q12⟩:=x1.c13;simp at q0 q1 q2 q3 q4 q5 q6 q7 q8 q9 q10 q11 q12;obtain ⟨e0,e1,e2,e3,e4,e5,e6,e7⟩:=x2.c8;simp at e0 e1 e2 e3 e4 e5 e6 e7;clear x1 x2
   by_cases hlt:j < m
   ·have hltI:(j:Int) < m:=by omega
    cases so with
    | none =>
      have HXX:=Lh (ZbH HST.out);simp only [Zam]
      go_wp2_with fail
      go_meet;exact ⟨by rw [HXX.out]; rfl,S⟩
    | some r =>
      have hr2:=HRR.out r rfl;have hst:=HST.out;have hin:=HW.out wr S.out.bel;obtain ⟨b,off,x,hA,hb,hx,hmx,c0,c1,c2,c3,c4,c5,c6,c7⟩:=Za4 hin.2.1.one.2.2.2.2 rfl (k:=j) (by rw [HM.out]; exact hlt);have hbw:b < wr.heap.size:=Nat.lt_of_lt_of_le hb hin.2.2;rw [hA] at e7;simp only [Zam]
      have HC:Hid (∀ w1:World,Below wr.heap.size wr w1→Calls Tryz.prog 49 #[.agg (ZA k ((deep:Int)+1) false),.agg x.cells,.int .i64 r] w1 (Zu (.int .i64 (Zam (Zx k.vars k.chans.length (deep+1) false r x))) w1)):=Lh fun w1 h=>by
       have h1:=HW.out w1 (S.out.bel.trans (h.mono S.out.bel.size));have h2:=HIL.out x hmx (deep+1) r false B w1 (by omega) hr2 h1.1 (h1.2.1.part hmx) h1.2.2
       have h3:((deep+1:Nat):Int)=(deep:Int)+1:=by omega
       rw [h3] at h2;exact h2
      have hsn:=ZaI (vs:=k.vars) (nc:=k.chans.length) (deep:=deep+1) (high:=false) (first:=false) (left:=n - 1) hx hst;have hb2:(false || (false && decide (j=0)))=false:=rfl;rw [hb2] at hsn;have HSN:Hid (Zn k.vars k.chans.length (deep+1) false false (n - 1) (p.l.take (j+1))=Zx k.vars k.chans.length (deep+1) false r x):=Lh hsn;have HRL:Hid (∀ r2,Zx k.vars k.chans.length (deep+1) false r x=some r2→r2≤r):=Lh fun r2 h=>ZaB x _ _ _ _ h;generalize Zx k.vars k.chans.length (deep+1) false r x=so2 at *;simp only [ZA,KP.cells] at HC;clear hx hmx hA hst hsn hin
      go_upto_region 7 with fail
      obtain ⟨ι,F,i0',h0',hFb,hcl⟩:=ZC wr;have Fq0:=famc hFb q0 hkw;have Fq1:=famc hFb q1 hkw;have Fq2:=famc hFb q2 hkw;have Fq3:=famc hFb q3 hkw;have Fq4:=famc hFb q4 hkw;have Fq5:=famc hFb q5 hkw;have Fq6:=famc hFb q6 hkw;have Fq7:=famc hFb q7 hkw;have Fq8:=famc hFb q8 hkw;have Fq9:=famc hFb q9 hkw;have Fq10:=famc hFb q10 hkw;have Fq11:=famc hFb q11 hkw;have Fq12:=famc hFb q12 hkw;have Fe0:=famc hFb e0 hpw;have Fe7:=famc hFb e7 hpw;have Fc0:=famc hFb c0 hbw;have Fc1:=famc hFb c1 hbw;have Fc2:=famc hFb c2 hbw;have Fc3:=famc hFb c3 hbw;have Fc4:=famc hFb c4 hbw;have Fc5:=famc hFb c5 hbw;have Fc6:=famc hFb c6 hbw;have Fc7:=famc hFb c7 hbw;have HCF:=Lh (fun i=>HC.out (F i) (hFb i))
      haveI:Nonempty ι:=⟨i0'⟩
      refine Zb F i0' h0' (by kernel_rfl) (by kernel_rfl) ?_
      repeat (go_big_quiet_step (first
       | (go_at_call 49; refine (HCF.out _).mono ?_; rintro e w4 ⟨rfl,hb4⟩; exact ⟨rfl,hcl _ _ hb4⟩)))
      refine wpQuiet_nil ?_;intro i;have S5:=Lh (S.out.call (hFb i));clear HCF
      go_wp2
      go_roundw
      case rel=>exact ⟨j+1,so2,by omega,by go_num,rfl,S5,HSN,Lh (fun r2 h=>Nat.le_trans (HRL.out r2 h) hr2)⟩
      case measure=>simp [intOf]; omega
   ·have hltI:¬ (j:Int) < m:=by omega
    obtain rfl:m=j:=by omega
    have htk:p.l.take m=p.l:=List.take_of_length_le (by rw [HM.out]; omega);have hst:=HST.out;rw [htk] at hst;have HXX:=Lh hst;clear htk hst
    go_wp2_with fail
    go_meet;exact ⟨by rw [HXX.out],S⟩
 case rest =>
  obtain ⟨rfl,S⟩:=hcut
  have HS1:Hid (∀ r,Zn k.vars k.chans.length (deep+1) false false (n - 1) p.l=some r→r≤2048):=Lh fun r h=>by have:=Zfu h; omega
  generalize Zn k.vars k.chans.length (deep+1) false false (n - 1) p.l=s1 at *;clear HIL q0 q1 q2 q3 q4 q5 q6 q7 q8 q9 q10 q11 q12 e0 e1 e2 e3 e4 e5 e6 e7
  go_wp2_with fail
  go_loopw [2,8] (fun v i wr=>∃ (j:Nat) (so:Option Nat),j≤mg∧i = .int .i64 j∧v = .int .i64 (Zam so)∧Hid (ZgP w wr #[.slice k.Av k.vars.length k.cv,.slice k.Ac k.chans.length k.cc,.int .u8 k.root.kind,.int .i64 k.root.c,.int .i64 k.root.v,.int .u8 k.root.item,.slice k.root.At k.root.tos.length k.root.ct,.slice k.root.Ae k.root.e.length k.root.ce,.slice k.root.Ag k.root.g.length k.root.cg,.slice k.root.Al k.root.l.length k.root.cl,.slice k.Ap k.procs.length k.cp,.int .i64 deep,.bool false] #[.int .u8 p.kind,.int .i64 p.c,.int .i64 p.v,.int .u8 p.item,.slice p.At p.tos.length p.ct,.slice p.Ae p.e.length p.ce,.slice p.Ag mg p.cg,.slice p.Al m p.cl])∧Hid (ZaD k.vars k.chans.length (deep+1) false s1 (p.g.take j)=so)∧Hid (∀ r,so=some r→r≤2048)) (fun _ i _=>mg - (intOf i).toNat)
  case atStart=>exact ⟨0,s1,Nat.zero_le _,rfl,rfl,S,Lh Zbx,HS1⟩
  case round =>
   clear S HS1;obtain ⟨j,so,hj,rfl,rfl,S,HST,HRR⟩:=hrel;have x1:=S.out.kb;have x2:=S.out.pb;have hkw:=x1.lt;have hpw:=x2.lt;obtain ⟨q0,q1,q2,q3,q4,q5,q6,q7,q8,q9,q10,q11,q12⟩:=x1.c13;simp at q0 q1 q2 q3 q4 q5 q6 q7 q8 q9 q10 q11 q12;obtain ⟨e0,e1,e2,e3,e4,e5,e6,e7⟩:=x2.c8;simp at e0 e1 e2 e3 e4 e5 e6 e7;clear x1 x2
   by_cases hlt:j < mg
   ·have hltI:(j:Int) < mg:=by omega
    cases so with
    | none =>
      have HXX:=Lh (Zag HST.out);simp only [Zam]
      go_wp2
      go_ret;exact ⟨by rw [HXX.out]; rfl,S.out.bel⟩
    | some r =>
      have hr2:=HRR.out r rfl;have hst:=HST.out;have hin:=HW.out wr S.out.bel;obtain ⟨b,off,g,hA,hb,hx,hmx,hG⟩:=Zb7 hin.2.1.one.2.2.2.1.1 rfl (k:=j) (by rw [HMG.out]; exact hlt);have hbw:b < wr.heap.size:=Nat.lt_of_lt_of_le hb hin.2.2;have g17:=hG.c17;obtain ⟨qq,hq⟩:=HGB.out g hmx;have hbo:=(hin.2.1.one.2.2.2.1.2 g hmx).2.2.2.2;obtain ⟨b2,off2,x,hA2,hb2,hx2,hmx2,c0,c1,c2,c3,c4,c5,c6,c7⟩:=Za4 hbo rfl (k:=0) (by rw [hq]; simp)
      have hxq:x=qq:=by rw [hq] at hx2; simpa using hx2.symm
      subst hxq;have hbw2:b2 < wr.heap.size:=Nat.lt_of_lt_of_le hb2 hin.2.2;rw [hq] at g17;rw [hA2] at g17;rw [hA] at e6;rw [Nat.zero_mul,Nat.add_zero] at c0 c1 c2 c3 c4 c5 c6 c7;simp only [List.length_singleton] at g17;simp only [Zam]
      have HC:Hid (∀ w1:World,Below wr.heap.size wr w1→Calls Tryz.prog 49 #[.agg (ZA k ((deep:Int)+1) false),.agg x.cells,.int .i64 r] w1 (Zu (.int .i64 (Zam (Zx k.vars k.chans.length (deep+1) false r x))) w1)):=Lh fun w1 h=>by
       have h1:=HW.out w1 (S.out.bel.trans (h.mono S.out.bel.size));have h2:=HIG.out g hmx x hmx2 (deep+1) r false B w1 (by omega) hr2 h1.1 (h1.2.1.guard hmx hmx2) h1.2.2
       have h3:((deep+1:Nat):Int)=(deep:Int)+1:=by omega
       rw [h3] at h2;exact h2
      have HSN:=Lh ((Zbh hx hst).trans (Zcq hq));have HRL:Hid (∀ r2,Zx k.vars k.chans.length (deep+1) false r x=some r2→r2≤r):=Lh fun r2 h=>ZaB x _ _ _ _ h;generalize Zx k.vars k.chans.length (deep+1) false r x=so2 at *;simp only [ZA,KP.cells] at HC;clear hx hmx hA hst hin hG hq hbo hx2 hmx2 hA2
      go_upto_region 11 with fail
      obtain ⟨ι,F,i0',h0',hFb,hcl⟩:=ZC wr;have Fq0:=famc hFb q0 hkw;have Fq1:=famc hFb q1 hkw;have Fq2:=famc hFb q2 hkw;have Fq3:=famc hFb q3 hkw;have Fq4:=famc hFb q4 hkw;have Fq5:=famc hFb q5 hkw;have Fq6:=famc hFb q6 hkw;have Fq7:=famc hFb q7 hkw;have Fq8:=famc hFb q8 hkw;have Fq9:=famc hFb q9 hkw;have Fq10:=famc hFb q10 hkw;have Fq11:=famc hFb q11 hkw;have Fq12:=famc hFb q12 hkw;have Fe6:=famc hFb e6 hpw;have Fg17:=famc hFb g17 hbw;have Fc0:=famc hFb c0 hbw2;have Fc1:=famc hFb c1 hbw2;have Fc2:=famc hFb c2 hbw2;have Fc3:=famc hFb c3 hbw2;have Fc4:=famc hFb c4 hbw2;have Fc5:=famc hFb c5 hbw2;have Fc6:=famc hFb c6 hbw2;have Fc7:=famc hFb c7 hbw2;have HCF:=Lh (fun i=>HC.out (F i) (hFb i))
      haveI:Nonempty ι:=⟨i0'⟩
      refine Zb F i0' h0' (by kernel_rfl) (by kernel_rfl) ?_
      repeat (go_big_quiet_step (first
       | (go_at_call 49; refine (HCF.out _).mono ?_; rintro e w4 ⟨rfl,hb4⟩; exact ⟨rfl,hcl _ _ hb4⟩)))
      refine wpQuiet_nil ?_;intro i;have S5:=Lh (S.out.call (hFb i));clear HCF
      go_wp2
      go_roundw
      case rel=>exact ⟨j+1,so2,by omega,by go_num,rfl,S5,HSN,Lh (fun r2 h=>Nat.le_trans (HRL.out r2 h) hr2)⟩
      case measure=>simp [intOf]; omega
   ·have hltI:¬ (j:Int) < mg:=by omega
    obtain rfl:mg=j:=by omega
    have htk:p.g.take mg=p.g:=List.take_of_length_le (by rw [HMG.out]; omega);have hst:=HST.out;rw [htk] at hst;have HXX:=Lh hst;clear htk hst
    go_wp2
    go_ret;exact ⟨by rw [HXX.out]; rfl,S.out.bel⟩
end Go.Proofs.YtjndhfcfcedheaaGreatDoor
