/- Texts that belong together: KRX KZG KZH. -/
import Derived.Test.YtjndhfcfcedheaaGreatDoorHK34
import Derived.Test.YtjndhfcfcedheaaGreatDoorHK44
set_option linter.unusedVariables false
set_option linter.unusedSimpArgs false
set_option maxRecDepth 100000
set_option maxHeartbeats 16000000
namespace Go.Proofs.YtjndhfcfcedheaaGreatDoor
open Go.RowKit
structure Zpe (w W:World) (ks:Array Value):Prop where
 bel:Below w.heap.size w W
 kb:Blk W w.heap.size 34 ks
theorem Zpe.call {w W W1:World} {ks:Array Value} (h:Zpe w W ks) (hb:Below W.heap.size W W1):Zpe w W1 ks:=⟨h.bel.trans (hb.mono h.bel.size),h.kb.call hb⟩
theorem Zjq {α:Type} {l:List α} {f:α→Bool} {j:Nat} {x:α} (h:l[j]? = some x) (ha:(l.take j).all f=true) (hx:f x=true):(l.take (j+1)).all f=true:=by
 rw [List.take_add_one,h,Option.toList_some,List.all_append,ha]
 simp [hx]
theorem ZgA {k:KK} (h:¬ (k.vars.length≤256∧2≤k.chans.length∧k.chans.length≤64)):Zfd k=false:=by
 rw [ZfM,decide_eq_false h]; rfl
theorem ZfL {k:KK} (h:Zaw k=false):Zfd k=false:=by
 rw [ZfM,h]; simp
theorem ZiY {k:KK} (h1:k.vars.length≤256∧2≤k.chans.length∧k.chans.length≤64) (h2:Zaw k=true) (h3:k.vars.all Zkj=true) (h4:∀ j h,k.chans[j]? = some h→Zb9 j h=true) :
  Zfd k=(Zx k.vars k.chans.length 0 false 2048 k.root).isSome:=by
 rw [ZfM,decide_eq_true h1,h2,h3,ZdY.2 (fun j h hj=>by rw [Nat.zero_add]; exact h4 j h hj)]
 rfl
theorem ZjB (o:Option Nat):decide (0≤Zam o)=o.isSome:=by cases o <;> simp [Zam]
theorem ZpE (k:KK) (B:Nat) (w:World) (hk:k.In w B) (hB:B≤w.heap.size) :
  Calls Tryz.prog 22 #[.agg k.flat] w (Zu (.bool (Zfd k)) w):=by
 obtain ⟨W0,hW0⟩:∃ W,w.alloc (.cells k.flat 34)=W:=⟨_,rfl⟩
 have b0:Blk W0 w.heap.size 34 k.flat:=by rw [← hW0]; exact Blk.new w _ _
 have K0:Below w.heap.size w W0:=by rw [← hW0]; exact (Below.refl _ _).alloc (Nat.le_refl _) _
 have HW:Hid (∀ w1:World,Below w.heap.size w w1→k.In w1 B∧B≤w1.heap.size):=Lh fun w1 hb=>⟨hk.below (hb.mono hB),Nat.le_trans hB hb.size⟩
 have S:Hid (Zpe w W0 k.flat):=Lh ⟨K0,b0⟩;have HP:=Lh (Zoq k B W0 (HW.out W0 K0).1 (HW.out W0 K0).2);have HSZ:=Lh (fun h=>ZgA (k:=k) h);have HPL:=Lh (fun h=>ZfL (k:=k) h);have HVR:=Lh (fun (j:Nat) (x:ZZ) (h:k.vars[j]? = some x) (hx:Zkj x=false)=>ZiX h hx);have HHS:=Lh (fun (j:Nat) (x:Nat) (h:k.chans[j]? = some x) (hx:Zb9 j x=false)=>ZhH h hx);have HEN:=Lh (fun h1 h2 h3 h4=>ZiY (k:=k) h1 h2 h3 h4)
 have HLF:=Lh (fun (ok:KOk k) (w1:World) (hb:Below w.heap.size w w1)=>show Calls Tryz.prog 49 #[.agg (ZA k 0 false),.agg k.root.cells,.int .i64 2048] w1 (Zu (.int .i64 (Zam (Zx k.vars k.chans.length 0 false 2048 k.root))) w1) from
  rLeft k ok k.root 0 2048 false B w1 (by omega) (by omega) (HW.out w1 hb).1 (HW.out w1 hb).1.2.2.1 (HW.out w1 hb).2)
 generalize Zfd k=R at *
 obtain ⟨nv,hnv⟩:∃ q,k.vars.length=q:=⟨_,rfl⟩
 obtain ⟨nc,hnc⟩:∃ q,k.chans.length=q:=⟨_,rfl⟩
 have HNV:=Lh hnv;have HNC:=Lh hnc;simp only [KK.flat,hnv,hnc] at b0 hW0 S HP ⊢;obtain ⟨e0,e1,e2,e3,e4,e5,e6,e7,e8,e9,e10⟩:=b0.c11;simp at e0 e1 e2 e3 e4 e5 e6 e7 e8 e9 e10;clear b0 K0 hk
 by_cases h1:256 < nv
 ·have HXX:=Lh (HSZ.out (by rw [hnv]; omega))
  have y1:(256:Int) < nv:=by omega
  clear hnv hnc;go_enter Tryz.func22,Tryz.ntmps22
  go_wp2
  go_ret;exact ⟨by refine Za rfl ?_; rw [HXX.out],S.out.bel⟩
 have y1:¬ (256:Int) < nv:=by omega
 by_cases h2:nc < 2
 ·have HXX:=Lh (HSZ.out (by rw [hnc]; omega))
  have y2:(nc:Int) < 2:=by omega
  clear hnv hnc;go_enter Tryz.func22,Tryz.ntmps22
  go_wp2
  go_ret;exact ⟨by refine Za rfl ?_; rw [HXX.out],S.out.bel⟩
 have y2:¬ (nc:Int) < 2:=by omega
 by_cases h3:64 < nc
 ·have HXX:=Lh (HSZ.out (by rw [hnc]; omega))
  have y3:(64:Int) < nc:=by omega
  clear hnv hnc;go_enter Tryz.func22,Tryz.ntmps22
  go_wp2
  go_ret;exact ⟨by refine Za rfl ?_; rw [HXX.out],S.out.bel⟩
 have y3:¬ (64:Int) < nc:=by omega
 have HS1:Hid (k.vars.length≤256∧2≤k.chans.length∧k.chans.length≤64):=Lh (by rw [hnv,hnc]; omega);clear hnv hnc
 cases hpb:Zaw k with
 | false =>
   have HXX:=Lh (HPL.out hpb);rw [hpb] at HP;clear hpb;go_enter Tryz.func22,Tryz.ntmps22
   go_wp2_with (go_at_call 47; (with_reducible refine HP.out.mono ?_); rintro e1 w1 ⟨rfl,hb1⟩)
   go_ret;exact ⟨by refine Za rfl ?_; rw [HXX.out],S.out.bel.trans (hb1.mono S.out.bel.size)⟩
 | true =>
   rw [hpb] at HP;have HPB:=Lh hpb;clear hpb;go_enter Tryz.func22,Tryz.ntmps22
   go_wp2_with (first
    | (go_at_call 47; (with_reducible refine HP.out.mono ?_); rintro e1 w1 ⟨rfl,hb1⟩
       replace S:=Lh (S.out.call hb1);have x1:=S.out.kb;obtain ⟨e0,e1,e2,e3,e4,e5,e6,e7,e8,e9,e10⟩:=x1.c11;simp at e0 e1 e2 e3 e4 e5 e6 e7 e8 e9 e10
       clear x1 hb1))
   go_loopw [3] (fun i wr=>∃ n:Nat,n≤nv∧i = .int .i64 n∧Hid ((k.vars.take n).all Zkj=true)∧wr=w1) (fun i _=>nv - (intOf i).toNat)
   case atStart=>exact ⟨0,Nat.zero_le _,rfl,Lh (by simp),rfl⟩
   case round =>
    obtain ⟨n,hn,rfl,HV,rfl⟩:=hrel
    by_cases hlt:n < nv
    ·have hltI:(n:Int) < nv:=by omega
     have hin:=HW.out wr S.out.bel;obtain ⟨b,off,x,hA,hb,hx,hmx,c0,c1⟩:=Zb2 hin.1.1.2.1 rfl (k:=n) (by rw [HNV.out]; exact hlt);rw [hA] at e0;have HX:=Lh hx;have HPr:=Lh (ZmE x.kind wr);have HVB:=Lh (show Zkj x=(ZaT x.kind && decide (0≤x.dim∧x.dim≤64)) from rfl);clear hx hmx hA hin;generalize ZaT x.kind=pb at *
     cases pb with
     | false =>
       have HXX:=Lh (HVR.out n x HX.out (by rw [HVB.out]; rfl))
       go_wp2_with (go_at_call 48; (with_reducible refine HPr.out.mono ?_); rintro e1 w2 ⟨rfl,rfl⟩)
       go_ret;exact ⟨by refine Za rfl ?_; rw [HXX.out],S.out.bel⟩
     | true =>
       by_cases hd0:x.dim < 0
       ·have HXX:=Lh (HVR.out n x HX.out (by rw [HVB.out,decide_eq_false (by omega)]; rfl))
        go_wp2_with (go_at_call 48; (with_reducible refine HPr.out.mono ?_); rintro e1 w2 ⟨rfl,rfl⟩)
        go_ret;exact ⟨by refine Za rfl ?_; rw [HXX.out],S.out.bel⟩
       by_cases hd1:64 < x.dim
       ·have HXX:=Lh (HVR.out n x HX.out (by rw [HVB.out,decide_eq_false (by omega)]; rfl))
        go_wp2_with (go_at_call 48; (with_reducible refine HPr.out.mono ?_); rintro e1 w2 ⟨rfl,rfl⟩)
        go_ret;exact ⟨by refine Za rfl ?_; rw [HXX.out],S.out.bel⟩
       ·have HXX:=Lh (Zjq HX.out HV.out (by rw [HVB.out,decide_eq_true (by omega)]; rfl))
        go_wp2_with (go_at_call 48; (with_reducible refine HPr.out.mono ?_); rintro e1 w2 ⟨rfl,rfl⟩)
        go_roundw
        case rel=>exact ⟨n+1,by omega,by go_num,HXX,trivial⟩
        case measure=>simp [intOf]; omega
    ·have hltI:¬ (n:Int) < nv:=by omega
     obtain rfl:nv=n:=by omega
     have hv:=HV.out;rw [List.take_of_length_le (by rw [HNV.out]; omega)] at hv;have HVA:=Lh hv;clear hv HV
     go_wp2_with fail
     have HLF:=Lh (HLF.out (KOk.of HS1.out HVA.out));have HEN:=Lh (HEN.out HS1.out HPB.out HVA.out);clear HP HSZ HPL HVR
     go_loopw [4] (fun i wx=>∃ n:Nat,n≤nc∧i = .int .i64 n∧Hid (∀ j h,j < n→k.chans[j]? = some h→Zb9 j h=true)∧Hid (Zpe w wx #[.slice k.Av nv k.cv,.slice k.Ac nc k.cc,.int .u8 k.root.kind,.int .i64 k.root.c,.int .i64 k.root.v,.int .u8 k.root.item,.slice k.root.At k.root.tos.length k.root.ct,.slice k.root.Ae k.root.e.length k.root.ce,.slice k.root.Ag k.root.g.length k.root.cg,.slice k.root.Al k.root.l.length k.root.cl,.slice k.Ap k.procs.length k.cp])) (fun i _=>nc - (intOf i).toNat)
     case atStart=>exact ⟨0,Nat.zero_le _,rfl,Lh (fun j h hj=>absurd hj (by omega)),S⟩
     case round =>
      clear S e0 e1 e2 e3 e4 e5 e6 e7 e8 e9 e10;obtain ⟨n,hn2,rfl,HH,S⟩:=hrel;rename_i wr;have x1:=S.out.kb;obtain ⟨e0,e1,e2,e3,e4,e5,e6,e7,e8,e9,e10⟩:=x1.c11;simp at e0 e1 e2 e3 e4 e5 e6 e7 e8 e9 e10;clear x1
      by_cases hlt2:n < nc
      ·have hltI2:(n:Int) < nc:=by omega
       have hin:=HW.out wr S.out.bel;obtain ⟨b,off,x,hA,hb,hx,hmx,c0⟩:=Zi5 hin.1.2.1.2.1 rfl (k:=n) (by rw [HNC.out]; exact hlt2);rw [hA] at e1;have HCA:=Lh hA;have HX:=Lh hx;clear hx hmx hA hin
       by_cases hn2':n < 2
       ·have hnI:(n:Int) < 2:=by omega
        obtain ⟨W1,hW1⟩:∃ W,wr.alloc (.cells #[.int .u8 1,.int .u8 2] 94)=W:=⟨_,rfl⟩
        have K1:Below wr.heap.size wr W1:=by rw [← hW1]; exact (Below.refl _ _).alloc (Nat.le_refl _) _
        have b1:Blk W1 wr.heap.size 94 #[.int .u8 1,.int .u8 2]:=by rw [← hW1]; exact Blk.new _ _ _
        have S5:=Lh (S.out.call K1);have x1:=S5.out.kb;obtain ⟨g0,g1,g2,g3,g4,g5,g6,g7,g8,g9,g10⟩:=x1.c11;simp at g0 g1 g2 g3 g4 g5 g6 g7 g8 g9 g10;rw [HCA.out] at g1;have c1:=(K1.cell (p:=⟨b,off+n,none⟩) (Nat.lt_of_lt_of_le hb (HW.out wr S.out.bel).2)).trans c0;have d0:=b1.cell n;clear x1 K1 b1
        by_cases hn0:n=0
        ·have HHB:Hid (Zb9 n x=(x == 1)):=Lh (by rw [hn0]; rfl);rw [show (#[Value.int .u8 1,Value.int .u8 2]:Array Value)[n]? = some (.int .u8 1) by rw [hn0]; rfl] at d0;clear hn0 hn2'
         by_cases hxe:x=1
         ·have z1:((x:Int) == 1)=true:=by simp [hxe]
          have z2:((x:Int) != 1)=false:=by simp [hxe]
          have HXX:Hid (∀ j h,j < n+1→k.chans[j]? = some h→Zb9 j h=true):=Lh (by
           intro j h hj hh
           by_cases hjn:j=n
           ·rw [hjn,HX.out] at hh
            injection hh with hh
            rw [hjn,← hh,HHB.out,hxe]; rfl
           ·exact HH.out j h (by omega) hh)
          clear hxe
          go_wp2
          go_roundw
          case rel=>exact ⟨n+1,by omega,by go_num,HXX,S5⟩
          case measure=>simp [intOf]; omega
         ·have z1:((x:Int) == 1)=false:=by simp; omega
          have z2:((x:Int) != 1)=true:=by simp; omega
          have HXX:=Lh (HHS.out n x HX.out (by rw [HHB.out]; simp; omega));clear hxe
          go_wp2
          go_ret;exact ⟨by refine Za rfl ?_; rw [HXX.out],S5.out.bel⟩
        ·have HHB:Hid (Zb9 n x=(x == 2)):=Lh (by rw [show n=1 by omega]; rfl);rw [show (#[Value.int .u8 1,Value.int .u8 2]:Array Value)[n]? = some (.int .u8 2) by rw [show n=1 by omega]; rfl] at d0;clear hn0 hn2'
         by_cases hxe:x=2
         ·have z1:((x:Int) == 2)=true:=by simp [hxe]
          have z2:((x:Int) != 2)=false:=by simp [hxe]
          have HXX:Hid (∀ j h,j < n+1→k.chans[j]? = some h→Zb9 j h=true):=Lh (by
           intro j h hj hh
           by_cases hjn:j=n
           ·rw [hjn,HX.out] at hh
            injection hh with hh
            rw [hjn,← hh,HHB.out,hxe]; rfl
           ·exact HH.out j h (by omega) hh)
          clear hxe
          go_wp2
          go_roundw
          case rel=>exact ⟨n+1,by omega,by go_num,HXX,S5⟩
          case measure=>simp [intOf]; omega
         ·have z1:((x:Int) == 2)=false:=by simp; omega
          have z2:((x:Int) != 2)=true:=by simp; omega
          have HXX:=Lh (HHS.out n x HX.out (by rw [HHB.out]; simp; omega));clear hxe
          go_wp2
          go_ret;exact ⟨by refine Za rfl ?_; rw [HXX.out],S5.out.bel⟩
       ·have hnI:¬ (n:Int) < 2:=by omega
        have HHB:Hid (Zb9 n x=(x == 0)):=Lh (by unfold Zb9; rw [if_neg (by omega),if_neg (by omega)]);clear hn2'
        by_cases hxe:x=0
        ·have z1:((x:Int) == 0)=true:=by simp [hxe]
         have z2:((x:Int) != 0)=false:=by simp [hxe]
         have HXX:Hid (∀ j h,j < n+1→k.chans[j]? = some h→Zb9 j h=true):=Lh (by
          intro j h hj hh
          by_cases hjn:j=n
          ·rw [hjn,HX.out] at hh
           injection hh with hh
           rw [hjn,← hh,HHB.out,hxe]; rfl
          ·exact HH.out j h (by omega) hh)
         clear hxe
         go_wp2
         go_roundw
         case rel=>exact ⟨n+1,by omega,by go_num,HXX,S⟩
         case measure=>simp [intOf]; omega
        ·have z1:((x:Int) == 0)=false:=by simp; omega
         have z2:((x:Int) != 0)=true:=by simp; omega
         have HXX:=Lh (HHS.out n x HX.out (by rw [HHB.out]; simp; omega));clear hxe
         go_wp2
         go_ret;exact ⟨by refine Za rfl ?_; rw [HXX.out],S.out.bel⟩
      ·have hltI2:¬ (n:Int) < nc:=by omega
       obtain rfl:nc=n:=by omega
       have HXX:=Lh (HEN.out (fun j h hj=>HH.out j h (by
        have:=(List.getElem?_eq_some_iff.1 hj).1;rw [HNC.out] at this
        exact this) hj))
       have HXY:=Lh (HXX.out.trans (ZjB _).symm);generalize Zam (Zx k.vars k.chans.length 0 false 2048 k.root)=z at *;simp only [ZA,KP.cells,HNV.out,HNC.out] at HLF
       go_wp2_with (go_at_call 49; (with_reducible refine (HLF.out _ S.out.bel).mono ?_); rintro e1 w2 ⟨rfl,hb2⟩)
       go_ret;exact ⟨by refine Za rfl ?_; rw [HXY.out],S.out.bel.trans (hb2.mono S.out.bel.size)⟩
theorem Znh {k:KK} {R:Bool} {bc:Nat} {w W2 w1:World} {e:Ending} (hR:R=(Zx k.vars k.chans.length 0 false 2048 k.root).isSome) (hw:Below w.heap.size w W2) (hb:w.heap.size≤bc) (hlt:bc < W2.heap.size)
  (h:Zcw (Zx k.vars k.chans.length 0 false 2048 k.root) bc k W2 e w1):∃ b:Bool,e = .returned (.bool b)∧b=R∧Below w.heap.size w w1:=by
 obtain ⟨hu,b,z,rfl,-,hr⟩:=h;refine ⟨b,rfl,?_,hw.trans ((hu.below hlt).mono hb)⟩
 rcases hr with ⟨h1,rfl⟩ | ⟨r,h1,rfl,-⟩
 ·rw [hR,h1]; rfl
 ·rw [hR,h1]; rfl
theorem ZjX (k:KK) (B:Nat) (w:World) (hk:k.In w B) (hB:B≤w.heap.size) (h:¬ (k.vars.length≤256∧2≤k.chans.length∧k.chans.length≤64)) :
  Calls Tryz.prog 10 #[.agg k.flat] w (Zu (.bool false) w):=by
 obtain ⟨W0,hW0⟩:∃ W,w.alloc (.cells k.flat 34)=W:=⟨_,rfl⟩
 have b0:Blk W0 w.heap.size 34 k.flat:=by rw [← hW0]; exact Blk.new w _ _
 have K0:Below w.heap.size w W0:=by rw [← hW0]; exact (Below.refl _ _).alloc (Nat.le_refl _) _
 have HK0:=Lh K0
 obtain ⟨nv,hnv⟩:∃ q,k.vars.length=q:=⟨_,rfl⟩
 obtain ⟨nc,hnc⟩:∃ q,k.chans.length=q:=⟨_,rfl⟩
 rw [hnv,hnc] at h;simp only [KK.flat,hnv,hnc] at b0 hW0 ⊢;obtain ⟨e0,e1,e2,e3,e4,e5,e6,e7,e8,e9,e10⟩:=b0.c11;simp at e0 e1 e2 e3 e4 e5 e6 e7 e8 e9 e10;clear b0 K0 hk hnv hnc
 by_cases h1:256 < nv
 ·have y1:(256:Int) < nv:=by omega
  clear h;go_enter Tryz.func10,Tryz.ntmps10
  go_wp2
  go_ret;exact ⟨rfl,HK0.out⟩
 have y1:¬ (256:Int) < nv:=by omega
 by_cases h2:nc < 2
 ·have y2:(nc:Int) < 2:=by omega
  clear h;go_enter Tryz.func10,Tryz.ntmps10
  go_wp2
  go_ret;exact ⟨rfl,HK0.out⟩
 have y2:¬ (nc:Int) < 2:=by omega
 have y3:(64:Int) < nc:=by omega
 clear h;go_enter Tryz.func10,Tryz.ntmps10
 go_wp2
 go_ret;exact ⟨rfl,HK0.out⟩
theorem Zhs {k:KK} (h0:k.procs.length≠0) (h:¬ (k.root.kind=10∧k.root.l.length=k.procs.length)):Zaw k=false:=by
 unfold Zaw;rw [decide_eq_false h0,Bool.false_or]
 by_cases h1:k.root.kind=10
 ·rw [decide_eq_false (fun h2=>h ⟨h1,h2⟩),Bool.and_false]
 ·rw [show (k.root.kind == 10)=false by simp [h1]]; simp
theorem ZjL {k:KK} (h:k.procs.length=0∨k.root.kind=10∧k.root.l.length=k.procs.length) (hp:ZdU k.procs):Zaw k=true:=by
 by_cases h0:k.procs.length=0
 ·unfold Zaw; rw [decide_eq_true h0]; rfl
 ·obtain ⟨h1,h2⟩:=h.resolve_left h0;rw [ZfD h0 hp,h2]
  simp [h1]
theorem ZfP {k:KK} {n x:Nat} (hx:k.chans[n]? = some x) (hh:∀ j h,j < n→k.chans[j]? = some h→Zb9 j h=true) (h1:Zb9 n x=true):∀ j h,j < n+1→k.chans[j]? = some h→Zb9 j h=true:=by
 intro j h hj hq
 by_cases hjn:j=n
 ·rw [hjn,hx] at hq
  injection hq with hq
  rw [hjn,← hq,h1]
 ·exact hh j h (by omega) hq
theorem Zlu {k:KK} (ok:KOk k) {B bc:Nat} {w w1:World} (hk:k.In w B) (hB:B≤bc) (hb:Blk w bc 97 (ZfX k 2048)) :
  Calls Tryz.prog 38 #[.pointer (some ⟨bc,0,none⟩),.agg k.root.cells,.int .i64 1,.bool false] w (Zcw (Zx k.vars k.chans.length 0 false 2048 k.root) bc k w) :=
 kProc k k.root 0 2048 false B bc w (by omega) (by omega) ⟨hb,hk,hB,ok⟩ hk.2.2.1
theorem Zlv (k:KK) (B:Nat) (w:World) (hk:k.In w B) (hB:B≤w.heap.size) (hcap:k.procs.length≤k.cp) (hs:k.vars.length≤256∧2≤k.chans.length∧k.chans.length≤64) :
  Calls Tryz.prog 10 #[.agg k.flat] w (Zu (.bool (Zfd k)) w):=by
 obtain ⟨W0,hW0⟩:∃ W,w.alloc (.cells k.flat 34)=W:=⟨_,rfl⟩
 have b0:Blk W0 w.heap.size 34 k.flat:=by rw [← hW0]; exact Blk.new w _ _
 have K0:Below w.heap.size w W0:=by rw [← hW0]; exact (Below.refl _ _).alloc (Nat.le_refl _) _
 have HW:Hid (∀ w1:World,Below w.heap.size w w1→k.In w1 B∧B≤w1.heap.size):=Lh fun w1 hb=>⟨hk.below (hb.mono hB),Nat.le_trans hB hb.size⟩
 have S:Hid (Zpe w W0 k.flat):=Lh ⟨K0,b0⟩;have hlen:=hk.2.2.2.1;unfold ZB at hlen;have hroot:=hk.2.2.1.one.1.2.2.2.2.2;unfold ZB at hroot;have HS:=Lh hs;have HPL:=Lh (fun h=>ZfL (k:=k) h);have HVR:=Lh (fun (j:Nat) (x:ZZ) (h:k.vars[j]? = some x) (hx:Zkj x=false)=>ZiX h hx);have HHS:=Lh (fun (j:Nat) (x:Nat) (h:k.chans[j]? = some x) (hx:Zb9 j x=false)=>ZhH h hx);have HEN:=Lh (fun h1 h2 h3 h4=>ZiY (k:=k) h1 h2 h3 h4);generalize Zfd k=R at *;have HRT:=Lh (fun (ok:KOk k) (bc:Nat) (w1:World) (hk:k.In w1 B) (hb:B≤bc) (hw:Blk w1 bc 97 (ZfX k 2048))=>Zlu (w1:=w1) ok hk hb hw);have HKB:Hid (∀ w1:World,Blk (w1.alloc (.cells (k.flat.push (.int .i64 2048)) 97)) w1.heap.size 97 (ZfX k 2048)):=Lh fun w1=>Blk.new w1 _ _
 obtain ⟨nv,hnv⟩:∃ q,k.vars.length=q:=⟨_,rfl⟩
 obtain ⟨nc,hnc⟩:∃ q,k.chans.length=q:=⟨_,rfl⟩
 obtain ⟨m,hm⟩:∃ q,k.procs.length=q:=⟨_,rfl⟩
 obtain ⟨nl,hnl⟩:∃ q,k.root.l.length=q:=⟨_,rfl⟩
 obtain ⟨Av,hAv⟩:∃ q,k.Av=q:=⟨_,rfl⟩
 obtain ⟨Ac,hAc⟩:∃ q,k.Ac=q:=⟨_,rfl⟩
 obtain ⟨Ap,hAp⟩:∃ q,k.Ap=q:=⟨_,rfl⟩
 have HNV:=Lh hnv;have HNC:=Lh hnc;have HM:=Lh hm;have HNL:=Lh hnl;have HAv:=Lh hAv;have HAc:=Lh hAc;have HAp:=Lh hAp;rw [hnv,hnc] at hs;rw [hm] at hlen hcap;rw [hnl] at hroot;simp only [KK.flat,hnv,hnc,hm,hnl,hAv,hAc,hAp] at b0 hW0 S HKB ⊢;simp only [KP.cells,hnl] at HRT;obtain ⟨e0,e1,e2,e3,e4,e5,e6,e7,e8,e9,e10⟩:=b0.c11;simp at e0 e1 e2 e3 e4 e5 e6 e7 e8 e9 e10;clear b0 K0 hk hnv hnc hm hnl hAv hAc hAp
 have y1:¬ (256:Int) < nv:=by omega
 have y2:¬ (nc:Int) < 2:=by omega
 have y3:¬ (64:Int) < nc:=by omega
 go_enter Tryz.func10,Tryz.ntmps10
 by_cases hbad:m≠0∧¬ (k.root.kind=10∧nl=m)
 ·have HXX:=Lh (HPL.out (Zhs (by rw [HM.out]; exact hbad.1) (by rw [HNL.out,HM.out]; exact hbad.2)));obtain ⟨g0,g1⟩:=hbad
  have z0:(0:Int) < m:=by omega
  by_cases hk10:k.root.kind=10
  ·have z1:((k.root.kind:Int) != 10)=false:=by simp [hk10]
   have z2:((nl:Int) != m)=true:=by simp; intro h; exact g1 ⟨hk10,by omega⟩
   clear g0 g1 hk10
   go_wp2
   go_ret;exact ⟨by refine Za rfl ?_; rw [HXX.out],S.out.bel⟩
  ·have z1:((k.root.kind:Int) != 10)=true:=by simp; omega
   clear g0 g1 hk10
   go_wp2
   go_ret;exact ⟨by refine Za rfl ?_; rw [HXX.out],S.out.bel⟩
 have HGD:Hid (k.procs.length=0∨k.root.kind=10∧k.root.l.length=k.procs.length):=Lh (by rw [HM.out,HNL.out]; by_cases h0:m=0; exact .inl h0; exact .inr (Decidable.not_not.1 fun h=>hbad ⟨h0,h⟩))
 go_upto_region 3 with fail
 generalize Value.agg _=AG
 go_cut [46] (fun s46 wx=>s46 = .bool false∧wx=W0)
 case first =>
  by_cases h0:m=0
  ·have z0:¬ (0:Int) < (m:Int):=by omega
   clear hbad h0
   go_wp2_with fail
   go_meet;exact ⟨rfl,rfl⟩
  ·have z0:(0:Int) < m:=by omega
   have hg:=Decidable.not_not.1 fun h=>hbad ⟨h0,h⟩
   have z1:((k.root.kind:Int) != 10)=false:=by simp [hg.1]
   have HZ2:Hid (((nl:Int) != m)=false):=Lh (by simp [hg.2]);clear hbad hg h0
   go_wp2_with fail
   go_meet;exact ⟨by rw [HZ2.out],rfl⟩
 case rest =>
  obtain ⟨rfl,rfl⟩:=hcut;clear hbad
  go_wp2_with fail
  go_loopw [50] (fun i wr=>∃ n:Nat,n≤m∧i = .int .i64 n∧Hid (ZdU (k.procs.take n))∧wr=wc) (fun i _=>m - (intOf i).toNat)
  case atStart=>exact ⟨0,Nat.zero_le _,rfl,Lh ⟨by simp,by simp⟩,rfl⟩
  case round =>
   obtain ⟨n,hn,rfl,HOK,rfl⟩:=hrel
   by_cases hlt:n < m
   ·have hltI:(n:Int) < m:=by omega
    have hin:=HW.out wr S.out.bel;obtain ⟨b,off,hA,hb,hc⟩:=Zi3 hin.1.2.2.2.2.1 rfl (k:=n) (by rw [HM.out]; exact hlt);rw [HAp.out] at hA;subst hA;have hbw:b < wr.heap.size:=Nat.lt_of_lt_of_le hb hin.2
    obtain ⟨x,hx⟩:∃ x,k.procs[n]? = some x:=⟨_,List.getElem?_eq_getElem (by rw [HM.out]; exact hlt)⟩
    have c0:=hc n x hx;have HH0:Hid (k.procs.length≠0):=Lh (by rw [HM.out]; omega);have HRNG:=Lh (fun hr=>HPL.out (Zee HH0.out hx hr));have HDUP:=Lh (fun (s:Nat) (hs:s < n) (hy:k.procs[s]? = some x)=>HPL.out (ZfE HH0.out hy hx (by omega)));have HSN:=Lh (fun hne hr=>ZeW hx HOK.out hne hr);have HC:=Lh (Zj0 k.procs n b off k.cp x wr (by rw [HM.out]; omega) (by omega) hc);clear hx hc hin
    by_cases hx0:x < 0
    ·have HXX:=Lh (HRNG.out (by omega))
     go_wp2_with fail
     go_ret;exact ⟨by refine Za rfl ?_; rw [HXX.out],S.out.bel⟩
    by_cases hx8:8≤x
    ·have HXX:=Lh (HRNG.out (by omega))
     go_wp2_with fail
     go_ret;exact ⟨by refine Za rfl ?_; rw [HXX.out],S.out.bel⟩
    go_wp2_with (go_at_call 36; (with_reducible refine (HC.out).mono ?_); rintro e1 w1 ⟨rfl,r,rfl,hr⟩; rcases hr with ⟨rfl,hr⟩ | ⟨rfl,hr⟩)
    ·go_ret;obtain ⟨s,hs,hy⟩:=hr;exact ⟨by refine Za rfl ?_; rw [HDUP.out s hs hy],S.out.bel⟩
    ·go_roundw
     case rel=>exact ⟨n+1,by omega,by go_num,Lh (HSN.out hr ⟨by omega,by omega⟩),trivial⟩
     case measure=>simp [intOf]; omega
   ·have hltI:¬ (n:Int) < m:=by omega
    obtain rfl:m=n:=by omega
    have hok:=HOK.out;rw [List.take_of_length_le (by rw [HM.out]; omega)] at hok;have HPB:=Lh (ZjL HGD.out hok);clear hok HOK HPL HGD
    go_wp2_with fail
    go_loopw [73] (fun i wx=>∃ n:Nat,n≤nv∧i = .int .i64 n∧Hid ((k.vars.take n).all Zkj=true)∧Hid (Zpe w wx #[.slice Av nv k.cv,.slice Ac nc k.cc,.int .u8 k.root.kind,.int .i64 k.root.c,.int .i64 k.root.v,.int .u8 k.root.item,.slice k.root.At k.root.tos.length k.root.ct,.slice k.root.Ae k.root.e.length k.root.ce,.slice k.root.Ag k.root.g.length k.root.cg,.slice k.root.Al nl k.root.cl,.slice Ap m k.cp])) (fun i _=>nv - (intOf i).toNat)
    case atStart=>exact ⟨0,Nat.zero_le _,rfl,Lh (by simp),S⟩
    case round =>
     clear S e0 e1 e2 e3 e4 e5 e6 e7 e8 e9 e10 hW0;obtain ⟨n,hn,rfl,HV,S⟩:=hrel;have x1:=S.out.kb;obtain ⟨e0,e1,e2,e3,e4,e5,e6,e7,e8,e9,e10⟩:=x1.c11;simp at e0 e1 e2 e3 e4 e5 e6 e7 e8 e9 e10;clear x1
     by_cases hlt:n < nv
     ·have hltI:(n:Int) < nv:=by omega
      have hin:=HW.out wr S.out.bel;obtain ⟨b,off,x,hA,hb,hx,hmx,c0,c1⟩:=Zb2 hin.1.1.2.1 rfl (k:=n) (by rw [HNV.out]; exact hlt);rw [HAv.out] at hA;subst hA;have hbw:b < wr.heap.size:=Nat.lt_of_lt_of_le hb hin.2;have HX:=Lh hx;have HPr:=Lh (fun w1=>ZoL x.kind w1);have HVB:=Lh (show Zkj x=(ZaT x.kind && decide (0≤x.dim∧x.dim≤64)) from rfl);have S2:=Lh (S.out.call ((Below.refl wr.heap.size wr).alloc (Nat.le_refl _) (.cells #[.int .u8 x.kind,.int .i64 x.dim] 92)));have bx:=Blk.new wr 92 #[.int .u8 x.kind,.int .i64 x.dim];have HB:=Lh bx;clear bx hx hmx hin
      go_upto_region 14 with fail
      generalize wr.alloc _=w2 at *;have bx:=HB.out;clear c0 c1 e0 e1 e2 e3 e4 e5 e6 e7 e8 e9 e10 HB S;obtain ⟨d0,d1⟩:=bx.c2;simp at d0 d1;clear bx;generalize ZaT x.kind=pb at *
      cases pb with
      | false =>
        have HXX:=Lh (HVR.out n x HX.out (by rw [HVB.out]; rfl))
        go_wp2_with (go_at_call 37; (with_reducible refine (HPr.out _).mono ?_); rintro e1 w3 ⟨rfl,rfl⟩)
        go_ret;exact ⟨by refine Za rfl ?_; rw [HXX.out],S2.out.bel⟩
      | true =>
        by_cases hd0:x.dim < 0
        ·have HXX:=Lh (HVR.out n x HX.out (by rw [HVB.out,decide_eq_false (by omega)]; rfl))
         go_wp2_with (go_at_call 37; (with_reducible refine (HPr.out _).mono ?_); rintro e1 w3 ⟨rfl,rfl⟩)
         go_ret;exact ⟨by refine Za rfl ?_; rw [HXX.out],S2.out.bel⟩
        by_cases hd1:64 < x.dim
        ·have HXX:=Lh (HVR.out n x HX.out (by rw [HVB.out,decide_eq_false (by omega)]; rfl))
         go_wp2_with (go_at_call 37; (with_reducible refine (HPr.out _).mono ?_); rintro e1 w3 ⟨rfl,rfl⟩)
         go_ret;exact ⟨by refine Za rfl ?_; rw [HXX.out],S2.out.bel⟩
        ·have HXX:=Lh (Zjq HX.out HV.out (by rw [HVB.out,decide_eq_true (by omega)]; rfl))
         go_wp2_with (go_at_call 37; (with_reducible refine (HPr.out _).mono ?_); rintro e1 w3 ⟨rfl,rfl⟩)
         go_roundw
         case rel=>exact ⟨n+1,by omega,by go_num,HXX,S2⟩
         case measure=>simp [intOf]; omega
     ·have hltI:¬ (n:Int) < nv:=by omega
      obtain rfl:nv=n:=by omega
      have hv:=HV.out;rw [List.take_of_length_le (by rw [HNV.out]; omega)] at hv;have HVA:=Lh hv;clear hv HV
      go_wp2_with fail
      have HRT:=Lh (HRT.out (KOk.of HS.out HVA.out));have HEN:=Lh (HEN.out HS.out HPB.out HVA.out);clear HVR
      go_loopw [95] (fun i wx=>∃ n:Nat,n≤nc∧i = .int .i64 n∧Hid (∀ j h,j < n→k.chans[j]? = some h→Zb9 j h=true)∧wx=wr) (fun i _=>nc - (intOf i).toNat)
      case atStart=>exact ⟨0,Nat.zero_le _,rfl,Lh (fun j h hj=>absurd hj (by omega)),rfl⟩
      case round =>
       obtain ⟨n,hn2,rfl,HH,rfl⟩:=hrel
       by_cases hlt2:n < nc
       ·have hltI2:(n:Int) < nc:=by omega
        have hin:=HW.out _ S.out.bel;obtain ⟨b,off,x,hA,hb,hx,hmx,c0⟩:=Zi5 hin.1.2.1.2.1 rfl (k:=n) (by rw [HNC.out]; exact hlt2);rw [HAc.out] at hA;subst hA;have HX:=Lh hx;clear hx hmx hin
        by_cases hn0:n=0
        ·have y0:((n:Int) == 0)=true:=by simp [hn0]
         have HHB:Hid (Zb9 n x=(x == 1)):=Lh (by rw [hn0]; rfl);clear hn0
         by_cases hxe:x=1
         ·have z2:((x:Int) != 1)=false:=by simp [hxe]
          have HXX:=Lh (ZfP HX.out HH.out (by rw [HHB.out,hxe]; rfl));clear hxe
          go_wp2
          go_roundw
          case rel=>exact ⟨n+1,by omega,by go_num,HXX,trivial⟩
          case measure=>simp [intOf]; omega
         ·have z2:((x:Int) != 1)=true:=by simp; omega
          have HXX:=Lh (HHS.out n x HX.out (by rw [HHB.out]; simp; omega));clear hxe
          go_wp2
          go_ret;exact ⟨by refine Za rfl ?_; rw [HXX.out],S.out.bel⟩
        have y0:((n:Int) == 0)=false:=by simp; omega
        by_cases hn1:n=1
        ·have y1':((n:Int) == 1)=true:=by simp [hn1]
         have HHB:Hid (Zb9 n x=(x == 2)):=Lh (by rw [hn1]; rfl);clear hn0 hn1
         by_cases hxe:x=2
         ·have z2:((x:Int) != 2)=false:=by simp [hxe]
          have HXX:=Lh (ZfP HX.out HH.out (by rw [HHB.out,hxe]; rfl));clear hxe
          go_wp2
          go_roundw
          case rel=>exact ⟨n+1,by omega,by go_num,HXX,trivial⟩
          case measure=>simp [intOf]; omega
         ·have z2:((x:Int) != 2)=true:=by simp; omega
          have HXX:=Lh (HHS.out n x HX.out (by rw [HHB.out]; simp; omega));clear hxe
          go_wp2
          go_ret;exact ⟨by refine Za rfl ?_; rw [HXX.out],S.out.bel⟩
        have y1':((n:Int) == 1)=false:=by simp; omega
        have HHB:Hid (Zb9 n x=(x == 0)):=Lh (by unfold Zb9; rw [if_neg hn0,if_neg hn1]);clear hn0 hn1
        by_cases hxe:x=0
        ·have z2:((x:Int) != 0)=false:=by simp [hxe]
         have HXX:=Lh (ZfP HX.out HH.out (by rw [HHB.out,hxe]; rfl));clear hxe
         go_wp2
         go_roundw
         case rel=>exact ⟨n+1,by omega,by go_num,HXX,trivial⟩
         case measure=>simp [intOf]; omega
        ·have z2:((x:Int) != 0)=true:=by simp; omega
         have HXX:=Lh (HHS.out n x HX.out (by rw [HHB.out]; simp; omega));clear hxe
         go_wp2
         go_ret;exact ⟨by refine Za rfl ?_; rw [HXX.out],S.out.bel⟩
       ·have hltI2:¬ (n:Int) < nc:=by omega
        obtain rfl:nc=n:=by omega
        have HRR:=Lh (HEN.out (fun j h hj=>HH.out j h (by rw [← HNC.out]; exact (List.getElem?_eq_some_iff.1 hj).1) hj));clear HH HEN HHS
        go_upto_region 30 with fail
        have hb2:=HKB.out wr;simp only [List.push_toArray,List.cons_append,List.nil_append] at hb2;have S2:=S.out.call ((Below.refl wr.heap.size wr).alloc (Nat.le_refl _) (.cells #[.slice Av nv k.cv,.slice Ac nc k.cc,.int .u8 k.root.kind,.int .i64 k.root.c,.int .i64 k.root.v,.int .u8 k.root.item,.slice k.root.At k.root.tos.length k.root.ct,.slice k.root.Ae k.root.e.length k.root.ce,.slice k.root.Ag k.root.g.length k.root.cg,.slice k.root.Al nl k.root.cl,.slice Ap m k.cp,.int .i64 2048] 97));generalize wr.alloc _=W2 at *;have x1:=S2.kb;have HRT2:=Lh (HRT.out wr.heap.size W2 (HW.out W2 S2.bel).1 (by have:=S.out.bel.size; omega) hb2);have HSZ:Hid (w.heap.size≤wr.heap.size):=Lh S.out.bel.size;have HS2:=Lh S2;have HB2:=Lh hb2;clear HRT HKB S e0 e1 e2 e3 e4 e5 e6 e7 e8 e9 e10 hb2 S2;obtain ⟨e0,e1,e2,e3,e4,e5,e6,e7,e8,e9,e10⟩:=x1.c11;simp at e0 e1 e2 e3 e4 e5 e6 e7 e8 e9 e10;clear x1
        go_wp2_with (first
         | (go_at_call 38; (with_reducible refine HRT2.out.mono ?_); rintro e1 w3 hpr
            obtain ⟨br,rfl,hbR,hbl⟩:=Znh HRR.out HS2.out.bel HSZ.out HB2.out.lt hpr;have HBR:=Lh hbR;have HBL:=Lh hbl
            clear hpr hbR hbl))
        go_ret;exact ⟨by refine Za rfl ?_; exact HBR.out,HBL.out⟩
theorem ZpQ (k:KK) (B:Nat) (w:World) (hk:k.In w B) (hB:B≤w.heap.size) (hcap:k.procs.length≤k.cp) :
  Calls Tryz.prog 10 #[.agg k.flat] w (Zu (.bool (Zfd k)) w):=by
 by_cases hs:k.vars.length≤256∧2≤k.chans.length∧k.chans.length≤64
 ·exact Zlv k B w hk hB hcap hs
 ·rw [ZgA hs];exact ZjX k B w hk hB hs
end Go.Proofs.YtjndhfcfcedheaaGreatDoor
