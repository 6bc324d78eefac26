/- Texts that belong together: KL KO KP. -/
import Derived.Test.YtjndhfcfcedheaaGreatDoorHK4
import Derived.Test.YtjndhfcfcedheaaGreatDoorHK5
set_option linter.unusedVariables false
set_option linter.unusedSimpArgs false
set_option maxRecDepth 100000
set_option maxHeartbeats 16000000
namespace Go.Proofs.YtjndhfcfcedheaaGreatDoor
open Go.RowKit
theorem Zi2 (k:KK) (n:Int) (ch no:Int) (item B bc:Nat) (w:World) (hc:Chk w B bc k n) (hch:Zy ch) :
  Calls Tryz.prog 92 #[.pointer (some ⟨bc,0,none⟩),.int .i64 ch,.int .u8 item,.int .i64 no] w (Zmd (.bool (ZS k.chans.length ch item no)) w):=by
 have c1:=hc.c1;have HP:=Lh (fun w1=>ZoL item w1);have hnc:=hc.ok.nc
 obtain ⟨nc,hn⟩:∃ m,k.chans.length=m:=⟨_,rfl⟩
 rw [hn] at c1 hnc ⊢;clear hc hn;have HD:=Lh (show ZS nc ch item no=(decide (0≤ch∧ch < nc∧ch≠no) && ZaT item && (decide (1 < ch) || item == 1)) from rfl);generalize ZS nc ch item no=R at *
 by_cases h0:0≤ch
 ·by_cases h1:ch < nc
  ·by_cases h2:ch=no
   ·subst h2;go_enter Tryz.func92,Tryz.ntmps92
    go_wp2
    go_ret;exact ⟨by refine Za rfl ?_; rw [HD.out]; simp,rfl⟩
   ·cases hp:ZaT item with
    | false =>
      rw [hp] at HP HD;have HQ:=Lh hp;clear hp;go_enter Tryz.func92,Tryz.ntmps92
      go_wp2_with (go_at_call 37; (with_reducible refine (HP.out _).mono ?_); rintro e w1 ⟨rfl,rfl⟩)
      go_ret;exact ⟨by refine Za rfl ?_; rw [HD.out]; simp,rfl⟩
    | true =>
      rw [hp] at HP HD;have HQ:=Lh hp;clear hp
      by_cases h3:1 < ch
      ·go_enter Tryz.func92,Tryz.ntmps92
       go_wp2_with (go_at_call 37; (with_reducible refine (HP.out _).mono ?_); rintro e w1 ⟨rfl,rfl⟩)
       go_ret;exact ⟨by refine Za rfl ?_; rw [HD.out]; simp [h0,h1,h2,h3],rfl⟩
      ·go_enter Tryz.func92,Tryz.ntmps92
       go_wp2_with (go_at_call 37; (with_reducible refine (HP.out _).mono ?_); rintro e w1 ⟨rfl,rfl⟩)
       go_ret;exact ⟨by refine Za rfl ?_; rw [HD.out]; simp [h0,h1,h2,h3]; rw [Bool.eq_iff_iff]; simp; omega,rfl⟩
  ·go_enter Tryz.func92,Tryz.ntmps92
   go_wp2
   go_ret;exact ⟨by refine Za rfl ?_; rw [HD.out]; simp; intros; omega,rfl⟩
 ·go_enter Tryz.func92,Tryz.ntmps92
  go_wp2
  go_ret;exact ⟨by refine Za rfl ?_; rw [HD.out]; simp; intros; omega,rfl⟩
theorem Zno (vs:List ZZ) (e:KE) (q:Nat) (hq:q=1∨q=2∨q=3):(if q=1 then Zt vs e 1 else if q=2 then Zt vs e 2 else Zt vs e 3)=Zt vs e q:=by
 rcases hq with rfl | rfl | rfl <;> simp
theorem Znj (k:KK) (n:Int) (e:KE) (q:Nat) (hq:q=1∨q=2∨q=3) (B bc:Nat) (w:World) (hc:Chk w B bc k n) (hi:e.In w B) :
  Calls Tryz.prog 90 #[.pointer (some ⟨bc,0,none⟩),.agg e.cells,.int .u8 q] w (Zu (.bool (Z6 k.vars e q)) w):=by
 obtain ⟨W0,hW0⟩:∃ W,w.alloc (.cells e.cells 65)=W:=⟨_,rfl⟩
 have b0:Blk W0 w.heap.size 65 e.cells:=by rw [← hW0]; exact Blk.new w _ _
 have K0:Below w.heap.size w W0:=by rw [← hW0]; exact (Below.refl _ _).alloc (Nat.le_refl _) _
 have hc0:=hc.call K0;have hi0:=hi.below (K0.mono hc.leB);have HK0:=Lh K0;have HV:=Lh (ZpO e B W0 hi0 hc0.leB);have HR:=Lh (show Z6 k.vars e q=(Zaa e && Zt k.vars e q) from rfl)
 cases hv:Zaa e with
 | false =>
   rw [hv] at HV HR;simp only [KE.cells] at hW0 HV b0 ⊢;obtain ⟨e0,e1,e2,e3,e4,e5⟩:=b0.c6;simp at e0 e1 e2 e3 e4 e5;clear b0 K0 hc0 hi0 hv hi hc;go_enter Tryz.func90,Tryz.ntmps90
   go_wp2_with (go_at_call 101; (with_reducible refine HV.out.mono ?_); rintro e1 w1 ⟨rfl,hb1⟩)
   go_ret;exact ⟨by rw [HR.out]; rfl,HK0.out.trans (hb1.mono HK0.out.size)⟩
 | true =>
   have HB0:=Lh b0;have HC:=Lh (fun (w1:World) (hb:Below W0.heap.size W0 w1)=>ZpR k n e (Zdq hv) B bc w1 (hc0.call hb) (hi0.below (hb.mono hc0.leB)));have HH:=Lh (fun w1=>show Calls Tryz.prog 103 #[.int .u64 (Z4 k.vars e:Nat),.int .u8 q] w1 (Zmd (.bool (if q=1 then Zt k.vars e 1 else if q=2 then Zt k.vars e 2 else Zt k.vars e 3)) w1) from ZqP _ _ _ q hq w1);rw [Zno k.vars e q hq] at HH;rw [hv] at HV HR;generalize Z4 k.vars e=kn at *;generalize Zt k.vars e q=fb at *;simp only [KE.cells] at hW0 HV b0 HB0 HC ⊢;obtain ⟨e0,e1,e2,e3,e4,e5⟩:=b0.c6;simp at e0 e1 e2 e3 e4 e5;clear b0 K0 hc0 hi0 hv hi hc;go_enter Tryz.func90,Tryz.ntmps90
   go_wp2_with (first
    | (go_at_call 101; (with_reducible refine HV.out.mono ?_); rintro e1 w1 ⟨rfl,hb1⟩
       have b1:=HB0.out.call hb1;obtain ⟨f0,f1,f2,f3,f4,f5⟩:=b1.c6;simp at f0 f1 f2 f3 f4 f5;have HC1:=Lh (HC.out w1 hb1);have HB1:=Lh hb1
       clear hb1 b1)
    | (go_at_call 102; (with_reducible refine HC1.out.mono ?_); rintro e2 w2 ⟨rfl,hb2⟩
       have HB2:=Lh hb2
       clear hb2)
    | (go_at_call 103; (with_reducible refine (HH.out _).mono ?_); rintro e3 w3 ⟨rfl,rfl⟩))
   go_ret;exact ⟨by rw [HR.out]; rfl,HK0.out.trans ((HB1.out.trans (HB2.out.mono HB1.out.size)).mono HK0.out.size)⟩
theorem ZlD (k:KK) (n:Int) (e:KE) (B bc:Nat) (w:World) (hc:Chk w B bc k n) (hi:e.In w B) :
  Calls Tryz.prog 90 #[.pointer (some ⟨bc,0,none⟩),.agg e.cells,.int .u8 1] w (Zu (.bool (Z6 k.vars e 1)) w):=Znj k n e 1 (by simp) B bc w hc hi
theorem ZnV (k:KK) (n:Int) (e:KE) (B bc:Nat) (w:World) (hc:Chk w B bc k n) (hi:e.In w B) :
  Calls Tryz.prog 90 #[.pointer (some ⟨bc,0,none⟩),.agg e.cells,.int .u8 3] w (Zu (.bool (Z6 k.vars e 3)) w):=Znj k n e 3 (by simp) B bc w hc hi
def ZgX (vs:List ZZ) (l:List KE):Bool:=match l with
 | [e]=>Z6 vs e 1
 | _=>false
theorem Zgw {vs:List ZZ} {l:List KE} (h:l.length≠1):ZgX vs l=false:=by
 match l,h with
 | [],_=>rfl
 | [_],h=>exact absurd rfl h
 | _ :: _ :: _,_=>rfl
theorem Zht (vs:List ZZ) (v:Int) (A:Option Addr) (c:Nat) (l:List KE) (q:Nat):Zai vs ⟨v,A,c,l⟩ q=if v < 0 then false else match vs[v.toNat]? with
  | none=>false
  | some x=>x.kind == q && (if x.dim=0 then decide (l.length=0) else ZgX vs l):=rfl
theorem Zlt (k:KK) (n:Int) (p:KPl) (q:Nat) (B bc:Nat) (w:World) (hc:Chk w B bc k n) (hi:p.In w B) :
  Calls Tryz.prog 89 #[.pointer (some ⟨bc,0,none⟩),.agg p.cells,.int .u8 q] w (Zu (.bool (Zai k.vars p q)) w):=by
 obtain ⟨v,A,c,l⟩:=p
 obtain ⟨W0,hW0⟩:∃ W,w.alloc (.cells #[.int .i64 v,.slice A l.length c] 105)=W:=⟨_,rfl⟩
 have b0:Blk W0 w.heap.size 105 #[.int .i64 v,.slice A l.length c]:=by rw [← hW0]; exact Blk.new w _ _
 have K0:Below w.heap.size w W0:=by rw [← hW0]; exact (Below.refl _ _).alloc (Nat.le_refl _) _
 have hc0:=hc.call K0;have hi0:Zbm W0 B A l:=hi.2.below (K0.mono hc.leB);have HK0:=Lh K0;have HCK:=Lh hc0;have HR:=Lh (Zht k.vars v A c l q);generalize Zai k.vars ⟨v,A,c,l⟩ q=R at *;have v0:=hc0.c0;have HV:=Lh (fun (h0:¬ v < 0) (h1:v < (k.vars.length:Int))=>Zb2 hc0.inn.1.2.1 rfl (k:=v.toNat) (by omega));have HN:=Lh (fun (h1:¬ v < (k.vars.length:Int))=>List.getElem?_eq_none (l:=k.vars) (i:=v.toNat) (by omega));simp only [KPl.cells];obtain ⟨e0,e1⟩:=b0.c2;simp at e0 e1;clear b0 K0 hc0 hc hi
 by_cases h0:v < 0
 ·have H0:=Lh h0;clear HV HN hi0;go_enter Tryz.func89,Tryz.ntmps89
  go_upto_region 1 with fail
  go_quiet (fail)
  go_wp2
  go_ret;exact ⟨by refine Za rfl ?_; rw [HR.out,if_pos H0.out],Zm HK0.out _⟩
 have HR:=Lh (HR.out.trans (if_neg h0))
 by_cases h1:v < (k.vars.length:Int)
 ·obtain ⟨b',off',x,hA,hb',hx,hm',d0,d1⟩:=HV.out h0 h1;rw [hA] at v0;have HX:=Lh hx;clear HV HN
  obtain ⟨nv,hnv⟩:∃ t,k.vars.length=t:=⟨_,rfl⟩
  rw [hnv] at v0 h1
  have h1n:¬ (nv:Int)≤v:=by omega
  clear hnv hx hm' hA
  by_cases hk:x.kind=q
  ·subst hk
   by_cases hd:x.dim=0
   ·have HD:=Lh hd;rw [hd] at d1;clear hd
    obtain ⟨m,hm⟩:∃ m,l.length=m:=⟨_,rfl⟩
    have HM:=Lh hm;rw [hm] at e1 hW0 ⊢;clear hm hi0;go_enter Tryz.func89,Tryz.ntmps89
    go_upto_region 1 with fail
    go_quiet (fail)
    go_upto_region 3 with fail
    go_quiet (fail)
    go_wp2
    go_ret;exact ⟨by refine Za rfl ?_; rw [HR.out,HX.out]; simp only [HD.out,HM.out]; rw [Bool.eq_iff_iff]; simp,Zm HK0.out _⟩
   ·have HD:=Lh hd
    by_cases hl:l.length=1
    ·obtain ⟨e,rfl⟩:=ZaR hl;obtain ⟨b,off,y,rfl,hb,hy,hin,c0,c1,c2,c3,c4,c5⟩:=Zba hi0 (k:=0) (by simp)
     obtain rfl:e=y:=by simpa using hy
     have HF:=Lh (fun (w1:World) (hw:Below W0.heap.size W0 w1)=>ZlD k n e B bc w1 (HCK.out.call hw) (hin.below (hw.mono HCK.out.leB)));simp only [KE.cells,List.length_singleton,Nat.zero_mul,Nat.add_zero] at HF hW0 e1 c0 c1 c2 c3 c4 c5 ⊢
     obtain ⟨fb,hfb⟩:∃ t,Z6 k.vars e 1=t:=⟨_,rfl⟩
     have HFB:=Lh hfb;rw [hfb] at HF;clear hfb hy hin hi0 hl;go_enter Tryz.func89,Tryz.ntmps89
     go_upto_region 1 with fail
     go_quiet (fail)
     go_upto_region 3 with fail
     go_quiet (fail)
     go_wp2_with (go_at_call 90; go_loud (with_reducible refine (HF.out _ (Zm (Below.refl _ _) _)).mono ?_); rintro e3 w3 ⟨rfl,hb3⟩)
     go_ret;exact ⟨by refine Za rfl ?_; rw [HR.out,HX.out]; simp [HD.out,ZgX,HFB.out],(Zm HK0.out _).trans (hb3.mono HK0.out.size)⟩
    ·have HF:=Lh (Zgw (vs:=k.vars) hl)
     obtain ⟨m,hm⟩:∃ m,l.length=m:=⟨_,rfl⟩
     have hm1:((m:Int) == 1)=false:=by simp; omega
     rw [hm] at e1 hW0 ⊢;clear hm hi0 hl;go_enter Tryz.func89,Tryz.ntmps89
     go_upto_region 1 with fail
     go_quiet (fail)
     go_upto_region 3 with fail
     go_quiet (fail)
     go_wp2
     go_ret;exact ⟨by refine Za rfl ?_; rw [HR.out,HX.out]; simp only [if_neg HD.out,HF.out,Bool.and_false],Zm HK0.out _⟩
  ·have hk2:((x.kind:Int) == (q:Int))=false:=by simp; omega
   have HKN:=Lh (show (x.kind == q)=false by simpa using hk);clear hk hi0;go_enter Tryz.func89,Tryz.ntmps89
   go_upto_region 1 with fail
   go_quiet (fail)
   go_wp2
   go_ret;exact ⟨by refine Za rfl ?_; rw [HR.out,HX.out]; simp only [HKN.out,Bool.false_and],Zm HK0.out _⟩
 ·have HX:=Lh (HN.out h1);clear HV HN hi0
  obtain ⟨nv,hnv⟩:∃ t,k.vars.length=t:=⟨_,rfl⟩
  rw [hnv] at v0 h1
  have h1n:(nv:Int)≤v:=by omega
  clear hnv;go_enter Tryz.func89,Tryz.ntmps89
  go_upto_region 1 with fail
  go_quiet (fail)
  go_wp2
  go_ret;exact ⟨by refine Za rfl ?_; rw [HR.out,HX.out],Zm HK0.out _⟩
theorem ZnU (k:KK) (n:Int) (ch:Int) (item:Nat) (p:KPl) (B bc:Nat) (w:World) (hc:Chk w B bc k n) (hch:Zy ch) (hi:p.In w B) :
  Calls Tryz.prog 91 #[.pointer (some ⟨bc,0,none⟩),.int .i64 ch,.int .u8 item,.agg p.cells] w (Zu (.bool (Zbg k.vars k.chans.length ch item p)) w):=by
 obtain ⟨W0,hW0⟩:∃ W,w.alloc (.cells p.cells 105)=W:=⟨_,rfl⟩
 have b0:Blk W0 w.heap.size 105 p.cells:=by rw [← hW0]; exact Blk.new w _ _
 have K0:Below w.heap.size w W0:=by rw [← hW0]; exact (Below.refl _ _).alloc (Nat.le_refl _) _
 have hc0:=hc.call K0;have hi0:=hi.below (K0.mono hc.leB);have HK0:=Lh K0;have HC:=Lh (Zi2 k n ch 1 item B bc W0 hc0 hch);have HP:=Lh (Zlt k n p item B bc W0 hc0 hi0);have HR:=Lh (show Zbg k.vars k.chans.length ch item p=(ZS k.chans.length ch item 1 && Zai k.vars p item) from rfl);generalize Zbg k.vars k.chans.length ch item p=R at *;generalize Zai k.vars p item=pb at *;generalize ZS k.chans.length ch item 1=cb at *;simp only [KPl.cells] at hW0 b0 HP ⊢;obtain ⟨e0,e1⟩:=b0.c2;simp at e0 e1;clear b0 K0 hc0 hi0 hc hi
 cases cb with
 | false =>
   go_enter Tryz.func91,Tryz.ntmps91
   go_wp2_with (go_at_call 92; (with_reducible refine HC.out.mono ?_); rintro e1 w1 ⟨rfl,rfl⟩)
   go_ret;exact ⟨by rw [HR.out]; rfl,HK0.out⟩
 | true =>
   go_enter Tryz.func91,Tryz.ntmps91
   go_wp2_with (first
    | (go_at_call 92; (with_reducible refine HC.out.mono ?_); rintro e1 w1 ⟨rfl,rfl⟩)
    | (go_at_call 89; (with_reducible refine HP.out.mono ?_); rintro e2 w2 ⟨rfl,hb2⟩))
   go_ret;exact ⟨by rw [HR.out]; rfl,HK0.out.trans (hb2.mono HK0.out.size)⟩
end Go.Proofs.YtjndhfcfcedheaaGreatDoor
