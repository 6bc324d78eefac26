/- Texts that belong together: KRT KRU KRV KRW. -/
import Derived.Test.YtjndhfcfcedheaaGreatDoorHK32
import Derived.Test.YtjndhfcfcedheaaGreatDoorHK33
set_option linter.unusedVariables false
set_option linter.unusedSimpArgs false
set_option maxRecDepth 100000
set_option maxHeartbeats 16000000
namespace Go.Proofs.YtjndhfcfcedheaaGreatDoor
open Go.RowKit
theorem Zov (k:KK) (ok:KOk k) (p:KP) (hil:∀ x∈p.l,Zf6 k x) (hig:∀ g∈p.g,∀ x∈g.body,Zf6 k x) (deep n:Nat) (B:Nat) (w:World) (hd:deep < 32) (hn:n≤2048) (hn0:n≠0) (hk:k.In w B) (hi:p.In w B) (hB:B≤w.heap.size)
  (hl:ZbC p=true) (ht:Zd6 k.vars k.chans.length p=true) (h11:p.kind=11) :
  Calls Tryz.prog 49 #[.agg (ZA k deep false),.agg p.cells,.int .i64 n] w (Zu (.int .i64 (Zam (ZaD k.vars k.chans.length (deep+1) false (Zn k.vars k.chans.length (deep+1) false true (n - 1) p.l) p.g))) w):=by
 obtain ⟨W0,hW0⟩:∃ W,(w.alloc (.cells (ZA k deep false) 113)).alloc (.cells p.cells 31)=W:=⟨_,rfl⟩
 obtain ⟨l1,l2,l3⟩:=Zf8 w (ZA k deep false) p.cells 113 31;rw [hW0] at l1 l2 l3
 have HW:Hid (∀ w1:World,Below w.heap.size w w1→k.In w1 B∧p.In w1 B∧B≤w1.heap.size):=Lh fun w1 hb=>⟨hk.below (hb.mono hB),hi.below (hb.mono hB),Nat.le_trans hB hb.size⟩
 have hone:=hi.one.1;have hlen:=hone.2.2.2.2.2;have hlen2:=hone.2.2.2.2.1;unfold ZB at hlen hlen2
 obtain ⟨m,hm⟩:∃ m,p.l.length=m:=⟨_,rfl⟩
 obtain ⟨mg,hmg⟩:∃ m,p.g.length=m:=⟨_,rfl⟩
 have HM:=Lh hm;have HMG:=Lh hmg;rw [hm] at hlen;rw [hmg] at hlen2;have S:Hid (ZgP w W0 (ZA k deep false) p.cells):=Lh ⟨l1,l2,l3⟩;have HL:=Lh (fun w1=>ZeV p w1);have HT:=Lh (fun (w1:World) (hb:Below w.heap.size w w1)=>ZeU k p hl B w1 (HW.out w1 hb).1 ok (HW.out w1 hb).2.1.one (HW.out w1 hb).2.2)
 have y:((deep:Int) == 32)=false:=by simp; omega
 have y0:((n:Int) == 0)=false:=by simp; omega
 have y11:((p.kind:Int) == 11)=true:=by simp; omega
 rw [hl] at HL;rw [ht] at HT;have HIL:=Lh hil;have HIG:=Lh hig
 have HGB:Hid (∀ g∈p.g,∃ q,g.body=[q]):=Lh fun g hg=>by
  have hc:ZW k.vars k.chans.length p=true:=by rw [Zdx,hl,ht]; rfl
  obtain ⟨c,hgb⟩:=Z3 hc g hg;exact Zbb hgb
 have hn1:(n:Int) - 1=((n - 1:Nat):Int):=by omega
 have HN1:=Lh hn1;simp only [ZA,KP.cells,KK.flat,hm,hmg] at l2 l3 hW0 S HL HT ⊢;obtain ⟨q0,q1,q2,q3,q4,q5,q6,q7,q8,q9,q10,q11,q12⟩:=l2.c13;simp at q0 q1 q2 q3 q4 q5 q6 q7 q8 q9 q10 q11 q12;obtain ⟨e0,e1,e2,e3,e4,e5,e6,e7⟩:=l3.c8;simp at e0 e1 e2 e3 e4 e5 e6 e7;clear l1 l2 l3 hk hi hm hmg hone hl ht h11 hil hig hn1;go_enter Tryz.func49,Tryz.ntmps49
 go_upto_block 0 with (first
  | (go_at_call 63; (with_reducible refine (HL.out _).mono ?_); rintro e1 w1 ⟨rfl,hb1⟩
     replace S:=Lh (S.out.call hb1);have x1:=S.out.kb;have x2:=S.out.pb;obtain ⟨q0,q1,q2,q3,q4,q5,q6,q7,q8,q9,q10,q11,q12⟩:=x1.c13;simp at q0 q1 q2 q3 q4 q5 q6 q7 q8 q9 q10 q11 q12;obtain ⟨e0,e1,e2,e3,e4,e5,e6,e7⟩:=x2.c8;simp at e0 e1 e2 e3 e4 e5 e6 e7
     clear x1 x2 hb1)
  | (go_at_call 64; (with_reducible refine (HT.out _ S.out.bel).mono ?_); rintro e1 w1 ⟨rfl,hb1⟩
     replace S:=Lh (S.out.call hb1);have x1:=S.out.kb;have x2:=S.out.pb;obtain ⟨q0,q1,q2,q3,q4,q5,q6,q7,q8,q9,q10,q11,q12⟩:=x1.c13;simp at q0 q1 q2 q3 q4 q5 q6 q7 q8 q9 q10 q11 q12;obtain ⟨e0,e1,e2,e3,e4,e5,e6,e7⟩:=x2.c8;simp at e0 e1 e2 e3 e4 e5 e6 e7
     clear x1 x2 hb1))
 clear HL HT
 go_cut [2] (fun s2 wx=>s2 = .int .i64 (Zam (Zn k.vars k.chans.length (deep+1) false true (n - 1) p.l))∧Hid (ZgP w wx #[.slice k.Av k.vars.length k.cv,.slice k.Ac k.chans.length k.cc,.int .u8 k.root.kind,.int .i64 k.root.c,.int .i64 k.root.v,.int .u8 k.root.item,.slice k.root.At k.root.tos.length k.root.ct,.slice k.root.Ae k.root.e.length k.root.ce,.slice k.root.Ag k.root.g.length k.root.cg,.slice k.root.Al k.root.l.length k.root.cl,.slice k.Ap k.procs.length k.cp,.int .i64 deep,.bool false] #[.int .u8 p.kind,.int .i64 p.c,.int .i64 p.v,.int .u8 p.item,.slice p.At p.tos.length p.ct,.slice p.Ae p.e.length p.ce,.slice p.Ag mg p.cg,.slice p.Al m p.cl]))
 case first =>
  go_wp2_with fail
  go_loopw [2,7] (fun v i wr=>∃ (j:Nat) (so:Option Nat),j≤m∧i = .int .i64 j∧v = .int .i64 (Zam so)∧Hid (ZgP w wr #[.slice k.Av k.vars.length k.cv,.slice k.Ac k.chans.length k.cc,.int .u8 k.root.kind,.int .i64 k.root.c,.int .i64 k.root.v,.int .u8 k.root.item,.slice k.root.At k.root.tos.length k.root.ct,.slice k.root.Ae k.root.e.length k.root.ce,.slice k.root.Ag k.root.g.length k.root.cg,.slice k.root.Al k.root.l.length k.root.cl,.slice k.Ap k.procs.length k.cp,.int .i64 deep,.bool false] #[.int .u8 p.kind,.int .i64 p.c,.int .i64 p.v,.int .u8 p.item,.slice p.At p.tos.length p.ct,.slice p.Ae p.e.length p.ce,.slice p.Ag mg p.cg,.slice p.Al m p.cl])∧Hid (Zn k.vars k.chans.length (deep+1) false true (n - 1) (p.l.take j)=so)∧Hid (∀ r,so=some r→r≤2048)) (fun _ i _=>m - (intOf i).toNat)
  case atStart=>exact ⟨0,some (n - 1),Nat.zero_le _,rfl,by rw [HN1.out]; rfl,S,Lh (by rw [List.take_zero,Zn]),Lh (fun r h=>by injection h with h; omega)⟩
  case round =>
   clear S q0 q1 q2 q3 q4 q5 q6 q7 q8 q9 q10 q11 q12 e0 e1 e2 e3 e4 e5 e6 e7;obtain ⟨j,so,hj,rfl,rfl,S,HST,HRR⟩:=hrel;have x1:=S.out.kb;have x2:=S.out.pb;have hkw:=x1.lt;have hpw:=x2.lt;obtain ⟨q0,q1,q2,q3,q4,q5,q6,q7,q8,q9,q10,q11,q12⟩:=x1.c13;simp at q0 q1 q2 q3 q4 q5 q6 q7 q8 q9 q10 q11 q12;obtain ⟨e0,e1,e2,e3,e4,e5,e6,e7⟩:=x2.c8;simp at e0 e1 e2 e3 e4 e5 e6 e7;clear x1 x2
   by_cases hlt:j < m
   ·have hltI:(j:Int) < m:=by omega
    cases so with
    | none =>
      have HXX:=Lh (ZbH HST.out);simp only [Zam]
      go_wp2_with fail
      go_meet;exact ⟨by rw [HXX.out]; rfl,S⟩
    | some r =>
      have hr2:=HRR.out r rfl;have hst:=HST.out;have hin:=HW.out wr S.out.bel;obtain ⟨b,off,x,hA,hb,hx,hmx,c0,c1,c2,c3,c4,c5,c6,c7⟩:=Za4 hin.2.1.one.2.2.2.2 rfl (k:=j) (by rw [HM.out]; exact hlt);have hbw:b < wr.heap.size:=Nat.lt_of_lt_of_le hb hin.2.2;rw [hA] at e7;simp only [Zam]
      by_cases hj0:j=0
      ·have yj:((j:Int) == 0)=true:=by simp; omega
       have HC:Hid (∀ w1:World,Below wr.heap.size wr w1→Calls Tryz.prog 49 #[.agg (ZA k ((deep:Int)+1) true),.agg x.cells,.int .i64 r] w1 (Zu (.int .i64 (Zam (Zx k.vars k.chans.length (deep+1) true r x))) w1)):=Lh fun w1 h=>by
        have h1:=HW.out w1 (S.out.bel.trans (h.mono S.out.bel.size));have h2:=HIL.out x hmx (deep+1) r true B w1 (by omega) hr2 h1.1 (h1.2.1.part hmx) h1.2.2
        have h3:((deep+1:Nat):Int)=(deep:Int)+1:=by omega
        rw [h3] at h2;exact h2
       have hsn:=ZaI (vs:=k.vars) (nc:=k.chans.length) (deep:=deep+1) (high:=false) (first:=true) (left:=n - 1) hx hst
       have hb2:(false || (true && decide (j=0)))=true:=by rw [decide_eq_true hj0]; rfl
       rw [hb2] at hsn;clear hj0;have HSN:Hid (Zn k.vars k.chans.length (deep+1) false true (n - 1) (p.l.take (j+1))=Zx k.vars k.chans.length (deep+1) true r x):=Lh hsn;have HRL:Hid (∀ r2,Zx k.vars k.chans.length (deep+1) true r x=some r2→r2≤r):=Lh fun r2 h=>ZaB x _ _ _ _ h;generalize Zx k.vars k.chans.length (deep+1) true r x=so2 at *;simp only [ZA,KP.cells] at HC;clear hx hmx hA hst hsn hin
       go_upto_region 7 with fail
       obtain ⟨ι,F,i0',h0',hFb,hcl⟩:=ZC wr;have Fq0:=famc hFb q0 hkw;have Fq1:=famc hFb q1 hkw;have Fq2:=famc hFb q2 hkw;have Fq3:=famc hFb q3 hkw;have Fq4:=famc hFb q4 hkw;have Fq5:=famc hFb q5 hkw;have Fq6:=famc hFb q6 hkw;have Fq7:=famc hFb q7 hkw;have Fq8:=famc hFb q8 hkw;have Fq9:=famc hFb q9 hkw;have Fq10:=famc hFb q10 hkw;have Fq11:=famc hFb q11 hkw;have Fq12:=famc hFb q12 hkw;have Fe0:=famc hFb e0 hpw;have Fe7:=famc hFb e7 hpw;have Fc0:=famc hFb c0 hbw;have Fc1:=famc hFb c1 hbw;have Fc2:=famc hFb c2 hbw;have Fc3:=famc hFb c3 hbw;have Fc4:=famc hFb c4 hbw;have Fc5:=famc hFb c5 hbw;have Fc6:=famc hFb c6 hbw;have Fc7:=famc hFb c7 hbw;have HCF:=Lh (fun i=>HC.out (F i) (hFb i))
       haveI:Nonempty ι:=⟨i0'⟩
       refine Zb F i0' h0' (by kernel_rfl) (by kernel_rfl) ?_
       repeat (go_big_quiet_step (first
        | (go_at_call 49; refine (HCF.out _).mono ?_; rintro e w4 ⟨rfl,hb4⟩; exact ⟨rfl,hcl _ _ hb4⟩)))
       refine wpQuiet_nil ?_;intro i;have S5:=Lh (S.out.call (hFb i));clear HCF
       go_wp2
       go_roundw
       case rel=>exact ⟨j+1,so2,by omega,by go_num,rfl,S5,HSN,Lh (fun r2 h=>Nat.le_trans (HRL.out r2 h) hr2)⟩
       case measure=>simp [intOf]; omega
      ·have yj:((j:Int) == 0)=false:=by simp; omega
       have HC:Hid (∀ w1:World,Below wr.heap.size wr w1→Calls Tryz.prog 49 #[.agg (ZA k ((deep:Int)+1) false),.agg x.cells,.int .i64 r] w1 (Zu (.int .i64 (Zam (Zx k.vars k.chans.length (deep+1) false r x))) w1)):=Lh fun w1 h=>by
        have h1:=HW.out w1 (S.out.bel.trans (h.mono S.out.bel.size));have h2:=HIL.out x hmx (deep+1) r false B w1 (by omega) hr2 h1.1 (h1.2.1.part hmx) h1.2.2
        have h3:((deep+1:Nat):Int)=(deep:Int)+1:=by omega
        rw [h3] at h2;exact h2
       have hsn:=ZaI (vs:=k.vars) (nc:=k.chans.length) (deep:=deep+1) (high:=false) (first:=true) (left:=n - 1) hx hst
       have hb2:(false || (true && decide (j=0)))=false:=by rw [decide_eq_false hj0]; rfl
       rw [hb2] at hsn;clear hj0;have HSN:Hid (Zn k.vars k.chans.length (deep+1) false true (n - 1) (p.l.take (j+1))=Zx k.vars k.chans.length (deep+1) false r x):=Lh hsn;have HRL:Hid (∀ r2,Zx k.vars k.chans.length (deep+1) false r x=some r2→r2≤r):=Lh fun r2 h=>ZaB x _ _ _ _ h;generalize Zx k.vars k.chans.length (deep+1) false r x=so2 at *;simp only [ZA,KP.cells] at HC;clear hx hmx hA hst hsn hin
       go_upto_region 7 with fail
       obtain ⟨ι,F,i0',h0',hFb,hcl⟩:=ZC wr;have Fq0:=famc hFb q0 hkw;have Fq1:=famc hFb q1 hkw;have Fq2:=famc hFb q2 hkw;have Fq3:=famc hFb q3 hkw;have Fq4:=famc hFb q4 hkw;have Fq5:=famc hFb q5 hkw;have Fq6:=famc hFb q6 hkw;have Fq7:=famc hFb q7 hkw;have Fq8:=famc hFb q8 hkw;have Fq9:=famc hFb q9 hkw;have Fq10:=famc hFb q10 hkw;have Fq11:=famc hFb q11 hkw;have Fq12:=famc hFb q12 hkw;have Fe0:=famc hFb e0 hpw;have Fe7:=famc hFb e7 hpw;have Fc0:=famc hFb c0 hbw;have Fc1:=famc hFb c1 hbw;have Fc2:=famc hFb c2 hbw;have Fc3:=famc hFb c3 hbw;have Fc4:=famc hFb c4 hbw;have Fc5:=famc hFb c5 hbw;have Fc6:=famc hFb c6 hbw;have Fc7:=famc hFb c7 hbw;have HCF:=Lh (fun i=>HC.out (F i) (hFb i))
       haveI:Nonempty ι:=⟨i0'⟩
       refine Zb F i0' h0' (by kernel_rfl) (by kernel_rfl) ?_
       repeat (go_big_quiet_step (first
        | (go_at_call 49; refine (HCF.out _).mono ?_; rintro e w4 ⟨rfl,hb4⟩; exact ⟨rfl,hcl _ _ hb4⟩)))
       refine wpQuiet_nil ?_;intro i;have S5:=Lh (S.out.call (hFb i));clear HCF
       go_wp2
       go_roundw
       case rel=>exact ⟨j+1,so2,by omega,by go_num,rfl,S5,HSN,Lh (fun r2 h=>Nat.le_trans (HRL.out r2 h) hr2)⟩
       case measure=>simp [intOf]; omega
   ·have hltI:¬ (j:Int) < m:=by omega
    obtain rfl:m=j:=by omega
    have htk:p.l.take m=p.l:=List.take_of_length_le (by rw [HM.out]; omega);have hst:=HST.out;rw [htk] at hst;have HXX:=Lh hst;clear htk hst
    go_wp2_with fail
    go_meet;exact ⟨by rw [HXX.out],S⟩
 case rest =>
  obtain ⟨rfl,S⟩:=hcut
  have HS1:Hid (∀ r,Zn k.vars k.chans.length (deep+1) false true (n - 1) p.l=some r→r≤2048):=Lh fun r h=>by have:=Zfu h; omega
  generalize Zn k.vars k.chans.length (deep+1) false true (n - 1) p.l=s1 at *;clear HIL q0 q1 q2 q3 q4 q5 q6 q7 q8 q9 q10 q11 q12 e0 e1 e2 e3 e4 e5 e6 e7
  go_wp2_with fail
  go_loopw [2,8] (fun v i wr=>∃ (j:Nat) (so:Option Nat),j≤mg∧i = .int .i64 j∧v = .int .i64 (Zam so)∧Hid (ZgP w wr #[.slice k.Av k.vars.length k.cv,.slice k.Ac k.chans.length k.cc,.int .u8 k.root.kind,.int .i64 k.root.c,.int .i64 k.root.v,.int .u8 k.root.item,.slice k.root.At k.root.tos.length k.root.ct,.slice k.root.Ae k.root.e.length k.root.ce,.slice k.root.Ag k.root.g.length k.root.cg,.slice k.root.Al k.root.l.length k.root.cl,.slice k.Ap k.procs.length k.cp,.int .i64 deep,.bool false] #[.int .u8 p.kind,.int .i64 p.c,.int .i64 p.v,.int .u8 p.item,.slice p.At p.tos.length p.ct,.slice p.Ae p.e.length p.ce,.slice p.Ag mg p.cg,.slice p.Al m p.cl])∧Hid (ZaD k.vars k.chans.length (deep+1) false s1 (p.g.take j)=so)∧Hid (∀ r,so=some r→r≤2048)) (fun _ i _=>mg - (intOf i).toNat)
  case atStart=>exact ⟨0,s1,Nat.zero_le _,rfl,rfl,S,Lh Zbx,HS1⟩
  case round =>
   clear S HS1;obtain ⟨j,so,hj,rfl,rfl,S,HST,HRR⟩:=hrel;have x1:=S.out.kb;have x2:=S.out.pb;have hkw:=x1.lt;have hpw:=x2.lt;obtain ⟨q0,q1,q2,q3,q4,q5,q6,q7,q8,q9,q10,q11,q12⟩:=x1.c13;simp at q0 q1 q2 q3 q4 q5 q6 q7 q8 q9 q10 q11 q12;obtain ⟨e0,e1,e2,e3,e4,e5,e6,e7⟩:=x2.c8;simp at e0 e1 e2 e3 e4 e5 e6 e7;clear x1 x2
   by_cases hlt:j < mg
   ·have hltI:(j:Int) < mg:=by omega
    cases so with
    | none =>
      have HXX:=Lh (Zag HST.out);simp only [Zam]
      go_wp2
      go_ret;exact ⟨by rw [HXX.out]; rfl,S.out.bel⟩
    | some r =>
      have hr2:=HRR.out r rfl;have hst:=HST.out;have hin:=HW.out wr S.out.bel;obtain ⟨b,off,g,hA,hb,hx,hmx,hG⟩:=Zb7 hin.2.1.one.2.2.2.1.1 rfl (k:=j) (by rw [HMG.out]; exact hlt);have hbw:b < wr.heap.size:=Nat.lt_of_lt_of_le hb hin.2.2;have g17:=hG.c17;obtain ⟨qq,hq⟩:=HGB.out g hmx;have hbo:=(hin.2.1.one.2.2.2.1.2 g hmx).2.2.2.2;obtain ⟨b2,off2,x,hA2,hb2,hx2,hmx2,c0,c1,c2,c3,c4,c5,c6,c7⟩:=Za4 hbo rfl (k:=0) (by rw [hq]; simp)
      have hxq:x=qq:=by rw [hq] at hx2; simpa using hx2.symm
      subst hxq;have hbw2:b2 < wr.heap.size:=Nat.lt_of_lt_of_le hb2 hin.2.2;rw [hq] at g17;rw [hA2] at g17;rw [hA] at e6;rw [Nat.zero_mul,Nat.add_zero] at c0 c1 c2 c3 c4 c5 c6 c7;simp only [List.length_singleton] at g17;simp only [Zam]
      have HC:Hid (∀ w1:World,Below wr.heap.size wr w1→Calls Tryz.prog 49 #[.agg (ZA k ((deep:Int)+1) false),.agg x.cells,.int .i64 r] w1 (Zu (.int .i64 (Zam (Zx k.vars k.chans.length (deep+1) false r x))) w1)):=Lh fun w1 h=>by
       have h1:=HW.out w1 (S.out.bel.trans (h.mono S.out.bel.size));have h2:=HIG.out g hmx x hmx2 (deep+1) r false B w1 (by omega) hr2 h1.1 (h1.2.1.guard hmx hmx2) h1.2.2
       have h3:((deep+1:Nat):Int)=(deep:Int)+1:=by omega
       rw [h3] at h2;exact h2
      have HSN:=Lh ((Zbh hx hst).trans (Zcq hq));have HRL:Hid (∀ r2,Zx k.vars k.chans.length (deep+1) false r x=some r2→r2≤r):=Lh fun r2 h=>ZaB x _ _ _ _ h;generalize Zx k.vars k.chans.length (deep+1) false r x=so2 at *;simp only [ZA,KP.cells] at HC;clear hx hmx hA hst hin hG hq hbo hx2 hmx2 hA2
      go_upto_region 11 with fail
      obtain ⟨ι,F,i0',h0',hFb,hcl⟩:=ZC wr;have Fq0:=famc hFb q0 hkw;have Fq1:=famc hFb q1 hkw;have Fq2:=famc hFb q2 hkw;have Fq3:=famc hFb q3 hkw;have Fq4:=famc hFb q4 hkw;have Fq5:=famc hFb q5 hkw;have Fq6:=famc hFb q6 hkw;have Fq7:=famc hFb q7 hkw;have Fq8:=famc hFb q8 hkw;have Fq9:=famc hFb q9 hkw;have Fq10:=famc hFb q10 hkw;have Fq11:=famc hFb q11 hkw;have Fq12:=famc hFb q12 hkw;have Fe6:=famc hFb e6 hpw;have Fg17:=famc hFb g17 hbw;have Fc0:=famc hFb c0 hbw2;have Fc1:=famc hFb c1 hbw2;have Fc2:=famc hFb c2 hbw2;have Fc3:=famc hFb c3 hbw2;have Fc4:=famc hFb c4 hbw2;have Fc5:=famc hFb c5 hbw2;have Fc6:=famc hFb c6 hbw2;have Fc7:=famc hFb c7 hbw2;have HCF:=Lh (fun i=>HC.out (F i) (hFb i))
      haveI:Nonempty ι:=⟨i0'⟩
      refine Zb F i0' h0' (by kernel_rfl) (by kernel_rfl) ?_
      repeat (go_big_quiet_step (first
       | (go_at_call 49; refine (HCF.out _).mono ?_; rintro e w4 ⟨rfl,hb4⟩; exact ⟨rfl,hcl _ _ hb4⟩)))
      refine wpQuiet_nil ?_;intro i;have S5:=Lh (S.out.call (hFb i));clear HCF
      go_wp2
      go_roundw
      case rel=>exact ⟨j+1,so2,by omega,by go_num,rfl,S5,HSN,Lh (fun r2 h=>Nat.le_trans (HRL.out r2 h) hr2)⟩
      case measure=>simp [intOf]; omega
   ·have hltI:¬ (j:Int) < mg:=by omega
    obtain rfl:mg=j:=by omega
    have htk:p.g.take mg=p.g:=List.take_of_length_le (by rw [HMG.out]; omega);have hst:=HST.out;rw [htk] at hst;have HXX:=Lh hst;clear htk hst
    go_wp2
    go_ret;exact ⟨by rw [HXX.out]; rfl,S.out.bel⟩
theorem rLeft (k:KK) (ok:KOk k) (p:KP):Zf6 k p:=by
 induction p using KP.ind with
 | h p ihg ihl =>
   intro deep n high B w hd hn hk hi hB;have hR:=Zds (vs:=k.vars) (nc:=k.chans.length) deep high n p;rw [Zdx] at hR
   by_cases h32:deep=32
   ·rw [hR,if_pos (by simp [h32])];exact ZmH k ok p deep n high B w hd hn hk hi hB h32
   have hd2:deep < 32:=by omega
   by_cases h0:n=0
   ·rw [hR,if_pos (by simp [h0])];exact Zox k ok p deep n high B w hd hn hk hi hB hd2 h0
   cases hl:ZbC p with
   | false =>
     rw [hR,if_pos (by simp [hl])];exact Zig k ok p deep n high B w hd hn hk hi hB hd2 h0 hl
   | true =>
     cases ht:Zd6 k.vars k.chans.length p with
     | false =>
       rw [hR,if_pos (by simp [ht])];exact Zif k ok p deep n high B w hd hn hk hi hB hd2 h0 hl ht
     | true =>
       have hc:¬ (decide (32≤deep) || decide (n=0))=true:=by simp; omega
       by_cases h11:p.kind=11
       ·cases high with
        | true =>
          rw [hR,if_pos (by simp [h11])];exact ZjC k ok p deep n true B w hd hn hk hi hB hd2 h0 hl ht rfl h11
        | false =>
          have:=Zov k ok p ihl ihg deep n B w hd2 hn h0 hk hi hB hl ht h11;rw [hR,if_neg (by simp [hl,ht]; omega),show (p.kind == 11)=true by simp [h11]];exact this
       ·cases high with
        | true =>
          have:=Zou k ok p ihl ihg deep n B w hd2 hn h0 hk hi hB hl ht h11;rw [hR,if_neg (by simp [hl,ht,h11]; omega),show (p.kind == 11)=false by simp [h11]];exact this
        | false =>
          have:=Zow k ok p ihl ihg deep n B w hd2 hn h0 hk hi hB hl ht h11;rw [hR,if_neg (by simp [hl,ht]; omega),show (p.kind == 11)=false by simp [h11]];exact this
theorem Zi3 {w:World} {B n:Nat} {A:Option Addr} {l:List Int} (h:Zo w B 1 A n (ZoR l)) (hn:l.length=n) {k:Nat} (hk:k < n) :
  ∃ b off,A=some ⟨b,off,none⟩∧b < B∧∀ j x,l[j]? = some x→w.cell? ⟨b,off+j,none⟩=some (.int .i64 x):=by
 subst hn;obtain ⟨b,off,rfl,hb,hc⟩:=h.addr (by omega) (by decide);refine ⟨b,off,rfl,hb,fun j x hx=>?_⟩;have:=hc (j * 1) (.int .i64 x) (by unfold ZoR; rw [show j * 1=j * 1+0 by omega,ZdZ (f:=fun x:Int=>[Value.int .i64 x]) (fun _=>rfl) hx 0 (by decide)]; rfl)
 simpa using this
def ZdU (l:List Int):Prop:=l.Nodup∧∀ n∈l,0≤n∧n < 8
theorem ZeW {l:List Int} {j:Nat} {x:Int} (h:l[j]? = some x) (hp:ZdU (l.take j)) (hne:∀ t y,t < j→l[t]? = some y→y≠x) (hr:0≤x∧x < 8):ZdU (l.take (j+1)):=by
 rw [List.take_add_one,h,Option.toList_some];refine ⟨?_,?_⟩
 ·rw [List.nodup_append];refine ⟨hp.1,by simp,?_⟩;intro a ha b hb;simp at hb;subst hb;obtain ⟨t,ht⟩:=List.mem_iff_getElem?.1 ha
  have hlt:t < j:=by
   have:=(List.getElem?_eq_some_iff.1 ht).1;rw [List.length_take] at this
   omega
  rw [List.getElem?_take,if_pos hlt] at ht;exact hne t a hlt ht
 ·intro n hn
  rcases List.mem_append.1 hn with h1 | h1
  ·exact hp.2 n h1
  ·simp at h1; subst h1; exact hr
theorem ZfE {k:KK} (h0:k.procs.length≠0) {i j:Nat} {x:Int} (hi:k.procs[i]? = some x) (hj:k.procs[j]? = some x) (hne:i≠j):Zaw k=false:=by
 have hn:¬ k.procs.Nodup:=by
  intro h;exact hne ((List.getElem?_inj (List.getElem?_eq_some_iff.1 hi).1 h).1 (by rw [hi,hj]))
 unfold Zaw;rw [decide_eq_false h0,decide_eq_false hn]
 rfl
theorem Zee {k:KK} (h0:k.procs.length≠0) {i:Nat} {x:Int} (hi:k.procs[i]? = some x) (hr:¬ (0≤x∧x < 8)):Zaw k=false:=by
 have hn:(k.procs.all fun n=>decide (0≤n∧n < 8))=false:=by
  rw [List.all_eq_false];exact ⟨x,List.mem_of_getElem? hi,by simpa using hr⟩
 unfold Zaw;rw [decide_eq_false h0,hn]
 simp
theorem ZfD {k:KK} (h0:k.procs.length≠0) (hp:ZdU k.procs):Zaw k=(k.root.kind == 10 && decide (k.root.l.length=k.procs.length)):=by
 have hn:(k.procs.all fun n=>decide (0≤n∧n < 8))=true:=by
  rw [List.all_eq_true]
  exact fun x hx=>by simpa using hp.2 x hx
 unfold Zaw;rw [decide_eq_false h0,decide_eq_true hp.1,hn]
 rfl
theorem Zoq (k:KK) (B:Nat) (w:World) (hk:k.In w B) (hB:B≤w.heap.size) :
  Calls Tryz.prog 47 #[.agg k.flat] w (Zu (.bool (Zaw k)) w):=by
 obtain ⟨W0,hW0⟩:∃ W,w.alloc (.cells k.flat 34)=W:=⟨_,rfl⟩
 have b0:Blk W0 w.heap.size 34 k.flat:=by rw [← hW0]; exact Blk.new w _ _
 have K0:Below w.heap.size w W0:=by rw [← hW0]; exact (Below.refl _ _).alloc (Nat.le_refl _) _
 have hlen:=hk.2.2.2.1;unfold ZB at hlen;have HK0:=Lh K0;have HP0:=Lh (hk.2.2.2.2.1.below (K0.mono hB));have HDUP:=Lh (fun (h0:k.procs.length≠0) (i j:Nat) (x:Int) (hi:k.procs[i]? = some x) (hj:k.procs[j]? = some x) (hne:i≠j)=>ZfE h0 hi hj hne);have HRNG:=Lh (fun (h0:k.procs.length≠0) (i:Nat) (x:Int) (hi:k.procs[i]? = some x) (hr:¬ (0≤x∧x < 8))=>Zee h0 hi hr);have HEND:=Lh (fun (h0:k.procs.length≠0) (h:ZdU k.procs)=>ZfD h0 h);have HZ:=Lh (fun (h0:k.procs.length=0)=>show Zaw k=true by unfold Zaw; rw [decide_eq_true h0]; rfl)
 obtain ⟨m,hm⟩:∃ m,k.procs.length=m:=⟨_,rfl⟩
 have HM:=Lh hm;rw [hm] at hlen;generalize Zaw k=R at *;simp only [KK.flat,hm] at b0 hW0 ⊢;obtain ⟨e0,e1,e2,e3,e4,e5,e6,e7,e8,e9,e10⟩:=b0.c11;simp at e0 e1 e2 e3 e4 e5 e6 e7 e8 e9 e10;clear b0 K0 hk hm
 by_cases h0:m=0
 ·have HXX:=Lh (HZ.out (by rw [HM.out]; exact h0))
  have y:((m:Int) == 0)=true:=by simp [h0]
  clear h0;go_enter Tryz.func47,Tryz.ntmps47
  go_wp2
  go_ret;exact ⟨by refine Za rfl ?_; rw [HXX.out],HK0.out⟩
 have y:((m:Int) == 0)=false:=by simp; omega
 have HH0:Hid (k.procs.length≠0):=Lh (by rw [HM.out]; exact h0);obtain ⟨b,off,hA,hb,hc⟩:=Zi3 HP0.out rfl (k:=0) (by rw [HM.out]; omega);rw [hA] at e10;have HC:=Lh hc;clear hc hA h0;go_enter Tryz.func47,Tryz.ntmps47
 go_wp2_with fail
 go_loopw [3,4] (fun i j wr=>∃ n q:Nat,n≤m∧i = .int .i64 n∧Hid (ZdU (k.procs.take n))∧wr=W0.drewN q) (fun i _ _=>m - (intOf i).toNat)
 case atStart=>exact ⟨0,0,Nat.zero_le _,rfl,Lh ⟨by simp,by simp⟩,rfl⟩
 case round =>
  obtain ⟨n,q,hn,rfl,HOK,rfl⟩:=hrel
  by_cases hlt:n < m
  ·have hltI:(n:Int) < m:=by omega
   obtain ⟨x,hx⟩:∃ x,k.procs[n]? = some x:=⟨_,List.getElem?_eq_getElem (by rw [HM.out]; exact hlt)⟩
   have c0:=HC.out n x hx;have HX:=Lh hx;clear hx
   go_wp2_with fail
   go_loopw [4] (fun jv wx=>∃ t q2:Nat,t≤n∧jv = .int .i64 t∧Hid (∀ s y,s < t→k.procs[s]? = some y→y≠x)∧wx=W0.drewN q2) (fun jv _=>n - (intOf jv).toNat)
   case atStart=>exact ⟨0,q,Nat.zero_le _,rfl,Lh (fun s y h=>absurd h (by omega)),rfl⟩
   case round =>
    obtain ⟨t,q2,ht,rfl,HNE,rfl⟩:=hrel
    by_cases htn:t < n
    ·have htI:(t:Int) < n:=by omega
     have htm:(t:Int) < m:=by omega
     obtain ⟨z,hz⟩:∃ z,k.procs[t]? = some z:=⟨_,List.getElem?_eq_getElem (by rw [HM.out]; omega)⟩
     have c1:=HC.out t z hz
     by_cases hzx:z=x
     ·have HXX:=Lh (HDUP.out HH0.out t n x (by rw [hz,hzx]) HX.out (by omega))
      have hb1:(z == x)=true:=by simp [hzx]
      clear hz hzx
      go_upto_region 9 with fail
      go_quiet (fail)
      go_wp2
      go_ret;exact ⟨by refine Za rfl ?_; rw [HXX.out],by first | exact Zm HK0.out _ | exact Zm (Zm HK0.out _) _⟩
     ·have hb1:(z == x)=false:=by simp [hzx]
      have HZ2:Hid (∀ s y,s < t+1→k.procs[s]? = some y→y≠x):=Lh (by
       intro s y hs hy
       by_cases hst:s=t
       ·subst hst;rw [hz] at hy
        injection hy with hy
        rw [← hy]; exact hzx
       ·exact HNE.out s y (by omega) hy)
      clear hz hzx
      go_upto_region 9 with fail
      go_quiet (fail)
      go_wp2
      go_roundw
      case rel=>exact ⟨t+1,_,by omega,by go_num,HZ2,rfl⟩
      case measure=>simp [intOf]; omega
    ·have htI:¬ (t:Int) < n:=by omega
     obtain rfl:n=t:=by omega
     by_cases hr:0≤x∧x < 8
     ·have HN:=Lh (ZeW HX.out HOK.out HNE.out hr);obtain ⟨r1,r2⟩:=hr
      go_wp2
      go_roundw
      case rel=>exact ⟨n+1,_,by omega,by go_num,HN,rfl⟩
      case measure=>simp [intOf]; omega
     ·have HXX:=Lh (HRNG.out HH0.out n x HX.out hr)
      by_cases hx0:x < 0
      ·clear hr
       go_wp2
       go_ret;exact ⟨by refine Za rfl ?_; rw [HXX.out],by first | exact Zm HK0.out _ | exact Zm (Zm HK0.out _) _⟩
      ·have hx8:¬ x < 8:=by omega
       clear hr
       go_wp2
       go_ret;exact ⟨by refine Za rfl ?_; rw [HXX.out],by first | exact Zm HK0.out _ | exact Zm (Zm HK0.out _) _⟩
  ·have hltI:¬ (n:Int) < m:=by omega
   obtain rfl:m=n:=by omega
   have hok:=HOK.out;rw [List.take_of_length_le (by rw [HM.out]; omega)] at hok;have HXX:=Lh (HEND.out HH0.out hok);clear hok
   by_cases h10:k.root.kind=10
   ·have y10:((k.root.kind:Int) == 10)=true:=by simp [h10]
    have HR2:Hid (R=decide (k.root.l.length=m)):=Lh (by rw [HXX.out,HM.out]; simp [h10]);clear h10
    go_wp2
    go_ret;exact ⟨by refine Za rfl ?_; rw [HR2.out,Bool.eq_iff_iff]; simp; omega,by first | exact Zm HK0.out _ | exact Zm (Zm HK0.out _) _⟩
   ·have y10:((k.root.kind:Int) == 10)=false:=by simp; omega
    have HR2:Hid (R=false):=Lh (by rw [HXX.out]; simp [h10]);clear h10
    go_wp2
    go_ret;exact ⟨by refine Za rfl ?_; rw [HR2.out],by first | exact Zm HK0.out _ | exact Zm (Zm HK0.out _) _⟩
theorem Zmg {w:World} {B n:Nat} {A:Option Addr} {vs:List ZZ} (h:Zo w B 2 A n (Zgc vs)) (hn:vs.length=n) (h0:0 < n) :
  ∃ b off,A=some ⟨b,off,none⟩∧b < B∧∀ j x,vs[j]? = some x→w.cell? ⟨b,off+j * 2,none⟩=some (.int .u8 x.kind)∧w.cell? ⟨b,off+j * 2+1,none⟩=some (.int .i64 x.dim):=by
 subst hn;obtain ⟨b,off,rfl,hb,hc⟩:=h.addr (by omega) (by decide);refine ⟨b,off,rfl,hb,fun j x hx=>?_⟩;have f:=fun i u (hi:i < 2) hu=>hc (j * 2+i) u (by unfold Zgc; rw [ZdZ (f:=fun x:ZZ=>x.cells.toList) (fun _=>rfl) hx i hi]; exact hu);refine ⟨by simpa using f 0 (.int .u8 x.kind) (by decide) rfl,?_⟩;have:=f 1 (.int .i64 x.dim) (by decide) rfl
 rwa [← Nat.add_assoc] at this
def Zkj (x:ZZ):Bool:=ZaT x.kind && decide (0≤x.dim∧x.dim≤64)
theorem ZdY:∀ {l:List Nat} {i:Nat},Zel i l=true ↔ ∀ j h,l[j]? = some h→Zb9 (i+j) h=true
 | [],i=>by simp [Zel]
 | x :: l,i=>by
   rw [Zel,Bool.and_eq_true,ZdY (l:=l)]
   constructor
   ·rintro ⟨h1,h2⟩ j h hj
    cases j with
    | zero=>simp at hj; subst hj; simpa using h1
    | succ j=>rw [show i+(j+1)=i+1+j by omega]; exact h2 j h (by simpa using hj)
   ·intro h;refine ⟨by simpa using h 0 x (by simp),fun j y hy=>?_⟩;rw [show i+1+j=i+(j+1) by omega];exact h (j+1) y (by simpa using hy)
theorem ZfM (k:KK):Zfd k=(decide (k.vars.length≤256∧2≤k.chans.length∧k.chans.length≤64) && Zaw k && k.vars.all Zkj && Zel 0 k.chans && (Zx k.vars k.chans.length 0 false 2048 k.root).isSome):=rfl
theorem ZiX {k:KK} {j:Nat} {x:ZZ} (h:k.vars[j]? = some x) (hx:Zkj x=false):Zfd k=false:=by
 rw [ZfM,show k.vars.all Zkj=false by rw [List.all_eq_false]; exact ⟨x,List.mem_of_getElem? h,by simp [hx]⟩]
 simp
theorem ZhH {k:KK} {j:Nat} {x:Nat} (h:k.chans[j]? = some x) (hx:Zb9 j x=false):Zfd k=false:=by
 have:Zel 0 k.chans=false:=by
  cases hh:Zel 0 k.chans with
  | false=>rfl
  | true =>
    have:=ZdY.1 hh j x h;rw [Nat.zero_add,hx] at this
    cases this
 rw [ZfM,this]
 simp
theorem KOk.of {k:KK} (h1:k.vars.length≤256∧2≤k.chans.length∧k.chans.length≤64) (h2:k.vars.all Zkj=true):KOk k:=by
 refine ⟨h1.1,h1.2,fun x hx=>?_⟩;have:=List.all_eq_true.1 h2 x hx;simp only [Zkj,Bool.and_eq_true,decide_eq_true_eq] at this;exact ⟨this.1,this.2⟩
end Go.Proofs.YtjndhfcfcedheaaGreatDoor
