/- Texts that belong together: VF VN VO VP VQ VR VW. -/
import Derived.Test.YtjndhfcfcedheaaGreatDoorHK18
import Derived.Test.YtjndhfcfcedheaaGreatDoorHK19
import Derived.Test.YtjndhfcfcedheaaGreatDoorHK3
import Derived.Test.YtjndhfcfcedheaaGreatDoorHK4
import Derived.Test.YtjndhfcfcedheaaGreatDoorHK10
import Derived.Test.YtjndhfcfcedheaaGreatDoorHK8
set_option linter.unusedVariables false
set_option linter.unusedSimpArgs false
set_option maxRecDepth 100000
set_option maxHeartbeats 16000000
namespace Go.Proofs.YtjndhfcfcedheaaGreatDoor
open Go.RowKit
theorem ZfJ {α:Type} [DecidableEq α]:∀ {l m:List α},l.Nodup→(∀ x∈l,x∈m)→l.length≤m.length
 | [],m,_,_=>Nat.zero_le _
 | x :: l,m,hn,hs=>by
   rw [List.nodup_cons] at hn;have hx:=hs x (by simp)
   have h1:=ZfJ (m:=m.erase x) hn.2 fun y hy=>by
    have hne:y≠x:=fun e=>hn.1 (e ▸ hy);exact (List.mem_erase_of_ne hne).2 (hs y (by simp [hy]))
   have h2:=List.length_erase_of_mem hx;have h3:=List.length_pos_of_mem hx;rw [List.length_cons]
   omega
theorem ZhO {w:Zr} (ht:Zak w) (ho:Ord w) {g:List Nat} (hg:g∈w.grp):g.length≤w.par.length:=by
 have hn:g.Nodup:=List.Sublist.nodup (List.sublist_flatten_of_mem hg) ho.nodup
 have h:=ZfJ (m:=List.range w.par.length) hn fun x hx=>by
  rw [List.mem_range];exact Zll ht (List.mem_flatten.2 ⟨g,hg,hx⟩)
 rwa [List.length_range] at h
def ZaJ:ZdL:=⟨[],[],[],[],[]⟩
def ZhA (nc:Nat):List Bool:=((List.replicate nc false).set 0 true).set 1 true
def Zbt (k:KK) (b:Nat):Nat→List Bool
 | 0=>ZhA k.chans.length
 | i+1=>if i=b then Zbt k b i else match k.root.l[i]? with
   | some p=>ZdC (Zd p).uses (Zbt k b i)
   | none=>Zbt k b i
def ZbB (k:KK) (b:Nat):List Bool:=if k.procs.length=0 then ZhA k.chans.length else Zbt k b k.root.l.length
theorem Zcr (k:KK) (b:Nat):∀ i,(Zbt k b i).length=k.chans.length
 | 0=>by simp [Zbt,ZhA]
 | i+1=>by
   rw [Zbt]
   split
   ·exact Zcr k b i
   ·split
    ·rw [ZfF,Zcr k b i]
    ·exact Zcr k b i
theorem Zhw (k:KK) (b:Nat):(ZbB k b).length=k.chans.length:=by
 unfold ZbB
 split
 ·simp [ZhA]
 ·exact Zcr k b _
def ZbA (k:KK) (w:Zr):List Int:=Zhh w.par w.uses (List.replicate k.vars.length (-1))
def Zdh (k:KK) (b:Nat) (w:Zr):List Int:=Zcv (ZbB k b) w.uses (List.replicate k.chans.length (-1))
def Zs (k:KK) (b:Nat):ZdL :=
 let w:=Zd (Zh k b)
 ⟨Zdf (ZJ Zf w.uses) (ZbA k w) (Zdh k b w) k.vars k.chans.length w,Za2 (ZbA k w) k.vars,ZbA k w,Zaq (ZbA k w) (Zdh k b w) k.vars k.chans.length,Zdh k b w⟩
def Zgf (s:ZdL):Bool:=decide (16384 < wrap64 ((s.fr.getD 0 default).above+(s.fr.getD 0 default).below))
def Zcs (k:KK) (branch:Int):ZdL×Int :=
 if Zfd k=false then (ZaJ,2)
 else if branch < 0∨(max 1 k.procs.length:Nat)≤branch then (ZaJ,4)
 else if Zgf (Zs k branch.toNat) then (ZaJ,240) else (Zs k branch.toNat,0)
structure Za9 (k:KK):Prop where
 nv:k.vars.length≤256
 nc2:2≤k.chans.length
 nc:k.chans.length≤64
 dims:∀ x∈k.vars,0≤x.dim∧x.dim≤64
 ps:k.procs.length=0∨k.root.l.length=k.procs.length
 rl:k.root.l.length≤2048
 room:∀ p,(p=k.root∨p∈k.root.l)→∃ d h a r,Zx k.vars k.chans.length d h a p=some r∧a≤2048
theorem Za9.all {k:KK} (h:Za9 k) {p:KP} (hp:p=k.root∨p∈k.root.l):p.all (fun x=>ZW k.vars k.chans.length x=true):=by
 obtain ⟨d,hh,a,r,h1,-⟩:=h.room p hp;exact ZkK p h1
theorem Za9.small {k:KK} (h:Za9 k) {p:KP} (hp:p=k.root∨p∈k.root.l):(Zd p).par.length≤2048∧(Zd p).uses.length≤2048∧(Zd p).grp.length≤2048:=by
 obtain ⟨d,hh,a,r,h1,h2⟩:=h.room p hp;have:=Zk6 h1
 omega
theorem Zfv {vs:List ZZ} {nc:Nat}:∀ {l:List KP} {deep left r:Nat} {high first:Bool},Zn vs nc deep high first left l=some r→∀ p∈l,∃ h a b,Zx vs nc deep h a p=some b∧a≤left
 | [],_,_,_,_,_,_,p,hp=>by cases hp
 | x :: l,deep,left,r,high,first,h,p,hp=>by
   rw [Zn] at h
   cases hx:Zx vs nc deep (high || first) left x with
   | none=>rw [hx] at h; cases h
   | some m =>
     rw [hx] at h
     rcases List.mem_cons.1 hp with rfl | hp
     ·exact ⟨_,_,_,hx,Nat.le_refl _⟩
     ·obtain ⟨h1,a,b,h2,h3⟩:=Zfv h p hp;have:=ZaB x _ _ _ _ hx;exact ⟨h1,a,b,h2,by omega⟩
theorem Zgt {vs:List ZZ} {nc:Nat}:∀ {l:List KP} {deep left r:Nat} {high first:Bool},Zn vs nc deep high first left l=some r→l.length+r≤left
 | [],_,left,r,_,_,h=>by rw [Zn] at h; injection h with h; simp; omega
 | x :: l,deep,left,r,high,first,h=>by
   rw [Zn] at h
   cases hx:Zx vs nc deep (high || first) left x with
   | none=>rw [hx] at h; cases h
   | some m =>
     rw [hx] at h;have h1:=Zgt h;have h2:=Zhd x 0 ⟨[-1],[],[],[]⟩ hx;have h3:=(ZaW x 0 ⟨[-1],[],[],[]⟩ Zfs (by simp)).2.1;have h4:=ZI h3;rw [List.length_cons]
     omega
theorem ZgB {k:KK} (h:Zfd k=true):Za9 k:=by
 unfold Zfd at h;simp only [Bool.and_eq_true,decide_eq_true_eq] at h;obtain ⟨⟨⟨⟨h1,h2⟩,h3⟩,h4⟩,h5⟩:=h;obtain ⟨r,hr⟩:=Option.isSome_iff_exists.1 h5;have hr0:=hr;rw [Zds] at hr
 have hps:∃ d q f lf m,Zn k.vars k.chans.length d q f lf k.root.l=some m∧lf≤2048:=by
  split at hr
  ·cases hr
  ·cases hx:Zn k.vars k.chans.length (0+1) false (k.root.kind == 11) (2048 - 1) k.root.l with
   | none=>rw [hx] at hr; cases hr
   | some m=>exact ⟨_,_,_,_,_,hx,by omega⟩
 obtain ⟨d,q,f,lf,m,hps,hlf⟩:=hps;refine ⟨h1.1,h1.2.1,h1.2.2,fun x hx=>?_,?_,?_,fun p hp=>?_⟩
 ·have:=List.all_eq_true.1 h3 x hx;simp only [Bool.and_eq_true,decide_eq_true_eq] at this;exact this.2
 ·unfold Zaw at h2;simp only [Bool.or_eq_true,Bool.and_eq_true,decide_eq_true_eq] at h2
  rcases h2 with h2 | h2
  ·exact .inl h2
  ·exact .inr h2.2
 ·have:=Zgt hps; omega
 ·rcases hp with rfl | hp
  ·exact ⟨_,_,_,_,hr0,Nat.le_refl _⟩
  ·obtain ⟨h1,a,b,h2,h3⟩:=Zfv hps p hp;exact ⟨_,_,_,_,h2,by omega⟩
theorem Zf0 {k:KK} (h:Za9 k) {b:Nat} (hb:b < max 1 k.procs.length):Zh k b=k.root∨Zh k b∈k.root.l:=by
 unfold Zh
 split
 ·exact .inl rfl
 ·rename_i h0
  rcases h.ps with h1 | h1
  ·exact absurd h1 h0
  ·refine .inr ?_;rw [List.getD_eq_getElem?_getD,List.getElem?_eq_getElem (by omega)];exact List.getElem_mem _
theorem Zpm {w:Zr} (h:Zak w) (hv:∀ u∈w.uses,∀ v∈ZbP u.1,0≤v) (n:Nat):Zhh w.par w.uses (List.replicate n (-1))=tb n fun k=>inF w.par w.uses (k:Int) (-1):=by
 rw [← ZiH];refine Zgq (by rw [ZiH,Ze9,List.length_replicate]) fun k hk=>?_;obtain ⟨h1,h2⟩:=Zmh h hv n k hk;rw [← h2,List.getD_eq_getElem?_getD,List.getElem?_eq_getElem (by omega)]
 rfl
theorem ZeL (l:List Bool) (i k:Nat) (b:Bool) (hk:k < l.length):(l.set i b).getD k false=if i=k then b else l.getD k false:=by
 rw [List.getD_eq_getElem?_getD,List.getD_eq_getElem?_getD,List.getElem?_set]
 split
 ·rename_i h; rw [if_pos (by omega)]; rfl
 ·rfl
theorem Zhx:∀ (cs:List Int) (o:List Bool) (k:Nat),(∀ c∈cs,0≤c)→k < o.length→(ZfG cs o).getD k false=(cs.contains (k:Int) || o.getD k false)
 | [],o,k,_,_=>by simp [ZfG]
 | c :: cs,o,k,hc,hk=>by
   have h0:=hc c (by simp)
   show (ZfG cs (o.set c.toNat true)).getD k false=_
   rw [Zhx cs _ k (fun x hx=>hc x (by simp [hx])) (by rw [List.length_set]; exact hk),ZeL o c.toNat k true hk,List.contains_cons]
   by_cases hck:c.toNat=k
   ·have:((k:Int) == c)=true:=by simp; omega
    rw [if_pos hck,this]; simp
   ·have:((k:Int) == c)=false:=by simp; omega
    rw [if_neg hck,this]; simp
theorem Zhv:∀ (us:List (KP×Nat)) (o:List Bool) (k:Nat),(∀ u∈us,∀ c∈Zau u.1,0≤c)→k < o.length→(ZdC us o).getD k false=((us.any fun u=>(Zau u.1).contains (k:Int)) || o.getD k false)
 | [],o,k,_,_=>by simp [ZdC]
 | u :: us,o,k,hc,hk=>by
   show (ZdC us (ZfG (Zau u.1) o)).getD k false=_
   rw [Zhv us _ k (fun x hx=>hc x (by simp [hx])) (by rw [Zeg]; exact hk),Zhx _ o k (hc u (by simp)) hk,List.any_cons]
   cases (Zau u.1).contains (k:Int) <;> cases (us.any fun u=>(Zau u.1).contains (k:Int)) <;> simp
theorem Zhz {n k:Nat} (hk:k < n):(ZhA n).getD k false=decide (k < 2):=by
 unfold ZhA;rw [ZeL _ 1 k true (by simp; exact hk),ZeL _ 0 k true (by simp; exact hk)]
 by_cases h1:1=k
 ·subst h1; simp
 ·rw [if_neg h1]
  by_cases h0:0=k
  ·subst h0; simp
  ·rw [if_neg h0]
   have:¬ k < 2:=by omega
   rw [List.getD_eq_getElem?_getD,List.getElem?_replicate,if_pos hk]
   simp [this]
def Zbj (k:KK) (b c:Nat):Nat→Bool
 | 0=>false
 | i+1=>Zbj k b c i || (decide (i≠b) && match k.root.l[i]? with
   | some p=>Zpj (Zd p) (c:Int)
   | none=>false)
theorem Zhy {k:KK} (kf:Za9 k) (b:Nat) {c:Nat} (hc:c < k.chans.length):∀ i,i≤k.root.l.length→(Zbt k b i).getD c false=(decide (c < 2) || Zbj k b c i)
 | 0,_=>by rw [Zbt,Zhz hc,Zbj,Bool.or_false]
 | i+1,hi=>by
   have ih:=Zhy kf b hc i (by omega);rw [Zbt,Zbj];have hx:k.root.l[i]? = some k.root.l[i]:=List.getElem?_eq_getElem (by omega)
   by_cases hib:i=b
   ·rw [if_pos hib,ih]; simp [hib]
   ·rw [if_neg hib,hx]
    simp only
    have hall:=kf.all (p:=k.root.l[i]) (.inr (List.getElem_mem _));rw [Zhv _ _ c (fun u hu x hx=>((ZdR (ZaS hall u hu)).2.1 x hx).1) (by rw [Zcr]; exact hc),ih];have hd:Zpj (Zd k.root.l[i]) (c:Int)=(Zd k.root.l[i]).uses.any fun u=>(Zau u.1).contains (c:Int):=rfl;rw [hd]
    have hne:decide (i≠b)=true:=by simp [hib]
    rw [hne,Bool.true_and]
    cases ((Zd k.root.l[i]).uses.any fun u=>(Zau u.1).contains (c:Int)) <;> cases decide (c < 2) <;> cases Zbj k b c i <;> rfl
def ZY (k:KK) (b c:Nat):Bool:=if k.procs.length=0 then false else Zbj k b c k.root.l.length
theorem Zk8 {k:KK} (kf:Za9 k) (b:Nat) {c:Nat} (hc:c < k.chans.length):(ZbB k b).getD c false=(decide (c < 2) || ZY k b c):=by
 unfold ZbB ZY
 split
 ·rw [Zhz hc,Bool.or_false]
 ·exact Zhy kf b hc _ (Nat.le_refl _)
theorem Zo3 {k:KK} (kf:Za9 k) (b:Nat) {p:KP} (hp:p=k.root∨p∈k.root.l):Zdh k b (Zd p)=Zg8 (Zd p) (ZY k b) k.chans.length:=by
 have hall:=kf.all hp;exact ZlS (Zd p) (ZY k b) k.chans.length (fun u hu c hc=>((ZdR (ZaS hall u hu)).2.1 c hc).1) (ZbB k b) fun c hc=>Zk8 kf b hc
theorem Zn8 {k:KK} (kf:Za9 k) {p:KP} (hp:p=k.root∨p∈k.root.l):ZbA k (Zd p)=tb k.vars.length fun v=>inF (Zd p).par (Zd p).uses (v:Int) (-1):=by
 have hall:=kf.all hp;exact Zpm (Zas p) (fun u hu v hv=>((ZdR (ZaS hall u hu)).1 v hv).1) _
theorem ZiR {w:World} {B n:Nat} {A:Option Addr} {l:List Int} (h:Zo w B 1 A n (ZO l)) (hn:l.length=n) {k:Nat} (hk:k < n):∃ b off,A=some ⟨b,off,none⟩∧b < B∧w.cell? ⟨b,off+k,none⟩=some (.int .i64 (upW l k)):=by
 obtain ⟨b,off,rfl,hb,hc⟩:=h.addr (by omega) (by omega);have hv:l[k]? = some l[k]:=List.getElem?_eq_getElem (by omega);refine ⟨b,off,rfl,hb,?_⟩;rw [hc k _ (Za7 hv)];unfold upW;rw [Int.toNat_natCast,List.getD_eq_getElem?_getD,hv]
 rfl
theorem Zos {pl:Zr} (ht:Zak pl) (a b:Int) (ha:-1≤a) (ha2:a < pl.par.length) (hb:0≤b) (hb2:b < pl.par.length) (hl:pl.par.length≤1000000) (A:Option Addr) (c B:Nat) (W:World) (h:Zo W B 1 A pl.par.length (ZO pl.par)) (hB:B≤W.heap.size) :
  Calls Tryz.prog 26 #[.slice A pl.par.length c,.int .i64 a,.int .i64 b] W (fun e W'=>e = .returned (.int .i64 (Zay pl.par a b))∧W'=W):=by
 have HP:=Lh h;have HT:=Lh ht
 obtain ⟨n,hn⟩:∃ n,pl.par.length=n:=⟨_,rfl⟩
 have HN:=Lh hn;rw [hn] at ha2 hb2 hl ⊢;clear h hn ht
 by_cases h0:a < 0
 ·have hR:Zay pl.par a b=b:=by unfold Zay; rw [if_pos h0]
  rw [hR];clear hR;go_enter Tryz.func26,Tryz.ntmps26
  go_wp2
  go_ret;exact ⟨rfl,rfl⟩
 ·have hR:∀ q:Nat,a+b < q→ZbI pl.par q a b=Zay pl.par a b:=fun q hq=>by
   unfold Zay;rw [if_neg h0];exact (Zdv HT.out q a b (by omega) (by rw [HN.out]; exact ha2) hb (by rw [HN.out]; exact hb2) hq (2 * pl.par.length+2) (by have:=HN.out; omega)).1
  generalize Zay pl.par a b=R at *;have HR:=Lh hR;clear hR;go_enter Tryz.func26,Tryz.ntmps26
  go_wp2_with fail
  go_loopw [1,2] (fun u v wr=>∃ x y:Int,u = .int .i64 x∧v = .int .i64 y∧wr=W∧0≤x∧x < n∧0≤y∧y < n∧Hid (∀ q:Nat,x+y < q→ZbI pl.par q x y=R)) (fun u v _=>(intOf u+intOf v).toNat)
  case atStart=>exact ⟨a,b,rfl,rfl,rfl,by omega,ha2,hb,hb2,HR⟩
  case round =>
   obtain ⟨x,y,rfl,rfl,rfl,hx0,hx,hy0,hy,HQ⟩:=hrel
   by_cases he:x=y
   ·subst he
    have hres:x=R:=by have:=HQ.out (2 * n+2) (by omega); rw [ZaP,if_pos rfl] at this; exact this
    go_wp2
    go_ret;exact ⟨by rw [← hres]; rfl,rfl⟩
   ·have hnx:=ZhG HT.out hx0 (by rw [HN.out]; exact hx) hy0 (by rw [HN.out]; exact hy) HQ.out he;have HX:=Lh hnx;clear hnx
    have hneq:(x != y)=true:=by simp; exact he
    by_cases hlt2:x < y
    ·have hgt:¬ y < x:=by omega
     obtain ⟨yn,rfl⟩:∃ k:Nat,y=k:=⟨y.toNat,by omega⟩
     obtain ⟨gb,off,hv,hgb,hcell⟩:=ZiR HP.out rfl (k:=yn) (by rw [HN.out]; omega);subst hv
     have hgw:gb < wr.heap.size:=by omega
     have hpp:=HT.out.parent (a:=(yn:Int)) (by omega) (by rw [HN.out]; exact hy);have HX2:=Lh (HX.out.1 hlt2);generalize upW pl.par yn=z at *;clear HX
     go_wp2_with fail
     go_roundw
     case rel=>exact ⟨x,z,rfl,rfl,trivial,by omega,by omega,by omega,by omega,Lh fun q hq=>by
      have h1:=HX2.out q (by omega);rw [← h1]
      exact ((Zdv HT.out q x z (by omega) (by rw [HN.out]; omega) (by omega) (by rw [HN.out]; omega) hq q hq).2)⟩
     case measure=>simp [intOf]; omega
    ·have hgt:y < x:=by omega
     obtain ⟨xn,rfl⟩:∃ k:Nat,x=k:=⟨x.toNat,by omega⟩
     obtain ⟨gb,off,hv,hgb,hcell⟩:=ZiR HP.out rfl (k:=xn) (by rw [HN.out]; omega);subst hv
     have hgw:gb < wr.heap.size:=by omega
     have hpp:=HT.out.parent (a:=(xn:Int)) (by omega) (by rw [HN.out]; exact hx);have HX2:=Lh (HX.out.2 hlt2);generalize upW pl.par xn=z at *;clear HX
     go_wp2_with fail
     go_roundw
     case rel=>exact ⟨z,y,rfl,rfl,trivial,by omega,by omega,by omega,by omega,HX2⟩
     case measure=>simp [intOf]; omega
def Zjs (e:KE):Prop:=∀ (v:Int) (B:Nat) (w:World),Zy v→e.In w B→B≤w.heap.size→Calls Tryz.prog 52 #[.agg e.cells,.int .i64 v] w (Zu (.bool ((ZaQ e).contains v)) w)
theorem Zgk (e:KE) (v:Int):(ZaQ e).contains v=((decide (e.kind=2∨e.kind=3) && (e.v == v)) || e.l.any fun x=>(ZaQ x).contains v):=by
 rw [ZgR,List.contains_append,Zdp]
 congr 1
 by_cases h:e.kind=2∨e.kind=3
 ·rw [if_pos h,Zcl,decide_eq_true h,Bool.true_and]
  by_cases hx:e.v=v <;> simp [hx]
 ·rw [if_neg h,decide_eq_false h]; simp
theorem rIn1 (e:KE) (hall:∀ x∈e.l,Zjs x):Zjs e:=by
 intro v B w hv hin hB
 obtain ⟨W0,hW0⟩:∃ W0,w.alloc (.cells e.cells 65)=W0:=⟨_,rfl⟩
 have K0:Hid (Below w.heap.size w W0):=Lh (by rw [← hW0]; exact (Below.refl _ _).alloc (Nat.le_refl _) _);have HB0:Hid (Blk W0 w.heap.size 65 e.cells):=Lh (by rw [← hW0]; exact Blk.new _ _ _);have HIN:=Lh hin;have HALL:=Lh hall;have HV:=Lh hv;have hk:=hin.one.1.1;have hlen:=hin.parts.1;unfold ZB at hlen
 obtain ⟨n,hn⟩:∃ n,e.l.length=n:=⟨_,rfl⟩
 have HN:=Lh hn
 obtain ⟨PA,hPA⟩:∃ q,e.A=q:=⟨_,rfl⟩
 have HPA:=Lh hPA
 obtain ⟨R,hR⟩:∃ r,(ZaQ e).contains v=r:=⟨_,rfl⟩
 have HR:Hid (((decide (e.kind=2∨e.kind=3) && (e.v == v)) || e.l.any fun x=>(ZaQ x).contains v)=R):=Lh (by rw [← Zgk]; exact hR);rw [hR];simp only [KE.cells,hn,hPA] at hW0 HB0 ⊢;rw [hn] at hlen;unfold Zy at hv;clear hin hall hn hPA hR;have b0:=HB0.out;have hlt:=b0.lt;obtain ⟨d0,d1,d2,d3,d4,d5⟩:=b0.c6;simp at d0 d1 d2 d3 d4 d5;clear b0;go_enter Tryz.func52,Tryz.ntmps52
 go_upto_region 1 with fail
 clear hW0
 obtain ⟨q,hq⟩:∃ q,(decide (e.kind=2∨e.kind=3) && (e.v == v))=q:=⟨_,rfl⟩
 have HQ:=Lh hq;clear hq
 go_cut [19] (fun s19 wx=>s19 = .bool q∧wx=W0)
 case first =>
  by_cases h2:e.kind=2
  ·have y2:((e.kind:Int) == 2)=true:=by simp [h2]
   have hq:(e.v == v)=q:=by rw [← HQ.out]; simp [h2]
   have HQ2:=Lh hq;clear h2 hq
   go_wp2_with fail
   go_meet;exact ⟨by rw [HQ2.out],rfl⟩
  ·have y2:((e.kind:Int) == 2)=false:=by simp; omega
   by_cases h3:e.kind=3
   ·have y3:((e.kind:Int) == 3)=true:=by simp [h3]
    have hq:(e.v == v)=q:=by rw [← HQ.out]; simp [h3]
    have HQ2:=Lh hq;clear h2 h3 hq
    go_wp2_with fail
    go_meet;exact ⟨by rw [HQ2.out],rfl⟩
   ·have y3:((e.kind:Int) == 3)=false:=by simp; omega
    have hq:false=q:=by rw [← HQ.out]; simp [h2,h3]
    have HQ2:=Lh hq;clear h2 h3 hq
    go_wp2_with fail
    go_meet;exact ⟨by rw [← HQ2.out],rfl⟩
 case rest =>
  obtain ⟨rfl,rfl⟩:=hcut
  cases q with
  | true =>
    have hR:R=true:=by rw [← HR.out,HQ.out,Bool.true_or]
    have HRR:=Lh hR;clear hR
    go_wp2_with fail
    go_ret;exact ⟨by rw [HRR.out]; rfl,K0.out⟩
  | false =>
    have HAN:Hid ((e.l.any fun x=>(ZaQ x).contains v)=R):=Lh (by have:=HR.out; rwa [HQ.out,Bool.false_or] at this)
    go_wp2_with fail
    go_loopw [5] (fun i wr=>∃ j:Nat,j≤n∧i = .int .i64 j∧Hid (Below w.heap.size w wr∧Blk wr w.heap.size 65 #[.int .u8 e.kind,.int .u8 e.oper,.int .u8 e.tk,.int .i32 e.n,.int .i64 e.v,.slice PA n e.c])∧Hid (((e.l.take j).any fun x=>(ZaQ x).contains v)=false)) (fun i _=>n - (intOf i).toNat)
    case atStart=>exact ⟨0,Nat.zero_le _,rfl,Lh ⟨K0.out,HB0.out⟩,Lh (by simp)⟩
    case round =>
     clear d0 d1 d2 d3 d4 d5 hlt;obtain ⟨j,hj,rfl,HW,HF⟩:=hrel;have b0:=HW.out.2;have hlt:=b0.lt;obtain ⟨d0,d1,d2,d3,d4,d5⟩:=b0.c6;simp at d0 d1 d2 d3 d4 d5;clear b0
     by_cases hlt2:j < n
     ·have hltI:(j:Int) < n:=by omega
      have hBw:B≤wr.heap.size:=Nat.le_trans hB HW.out.1.size;have hinw:=HIN.out.below (HW.out.1.mono hB);obtain ⟨b,off,x,hA,hb,hx,hmx,hxi,e0,e1,e2,e3,e4,e5⟩:=Zfe hinw.parts (k:=j) (by rw [HN.out]; exact hlt2);have hbw:b < wr.heap.size:=Nat.lt_of_lt_of_le hb hBw;obtain rfl:PA=some ⟨b,off,none⟩:=HPA.out.symm.trans hA
      obtain ⟨r,hr⟩:∃ r,(ZaQ x).contains v=r:=⟨_,rfl⟩
      have HRX:=Lh hr;have HX:=Lh hx;have HMX:=Lh hmx;have hc:=HALL.out x hmx v B wr HV.out hxi hBw;rw [hr] at hc;have HC:=Lh hc;simp only [KE.cells] at HC;clear hc hr hx hmx hxi hinw hA
      cases r with
      | true =>
        have hR:R=true:=by rw [← HAN.out,List.any_eq_true]; exact ⟨x,HMX.out,HRX.out⟩
        have HRR:=Lh hR;clear hR
        go_wp2_with (first
         | (go_at_call 52; (with_reducible refine HC.out.mono ?_); rintro e9 w3 ⟨rfl,K3⟩
            have HK3:=Lh K3
            clear K3))
        go_ret;exact ⟨by rw [HRR.out]; rfl,HW.out.1.trans (HK3.out.mono HW.out.1.size)⟩
      | false =>
        have HF2:Hid (((e.l.take (j+1)).any fun x=>(ZaQ x).contains v)=false):=Lh (by rw [ZM HX.out,List.any_append,HF.out,List.any_cons,HRX.out]; rfl)
        go_wp2_with (first
         | (go_at_call 52; (with_reducible refine HC.out.mono ?_); rintro e9 w3 ⟨rfl,K3⟩
            have HK3:=Lh K3
            clear K3))
        go_roundw
        case rel=>exact ⟨j+1,by omega,by go_num,Lh ⟨HW.out.1.trans (HK3.out.mono HW.out.1.size),HW.out.2.call HK3.out⟩,HF2⟩
        case measure=>simp [intOf]; omega
     ·have hltI:¬ (j:Int) < n:=by omega
      obtain rfl:n=j:=by omega
      have htk:e.l.take n=e.l:=List.take_of_length_le (by rw [HN.out]; omega)
      have hR:R=false:=by rw [← HAN.out,← htk]; exact HF.out
      have HRR:=Lh hR;clear htk hR
      go_wp2_with fail
      go_ret;exact ⟨by rw [HRR.out]; rfl,HW.out.1⟩
theorem rIn24 (e:KE):Zjs e:=KE.ind (Q:=Zjs) rIn1 e
theorem ZiA (a b:Int):(a == b)=decide (a=b):=by by_cases h:a=b <;> simp [h]
theorem Zhr (p:KP) (c:Int) (B:Nat) (w:World) (hc:Zy c) (hin:p.In w B) (hB:B≤w.heap.size):Calls Tryz.prog 28 #[.agg p.cells,.int .i64 c] w (Zu (.bool (ZiK p c)) w):=by
 obtain ⟨W0,hW0⟩:∃ W0,w.alloc (.cells p.cells 31)=W0:=⟨_,rfl⟩
 have K0:Hid (Below w.heap.size w W0):=Lh (by rw [← hW0]; exact (Below.refl _ _).alloc (Nat.le_refl _) _);have HB0:Hid (Blk W0 w.heap.size 31 p.cells):=Lh (by rw [← hW0]; exact Blk.new _ _ _);have HIN:Hid (p.In W0 B):=Lh (hin.below (K0.out.mono hB));have hk:=hin.one.1.1;have hlen:=hin.one.1.2.2.2.2.1;unfold ZB at hlen
 obtain ⟨n,hn⟩:∃ n,p.g.length=n:=⟨_,rfl⟩
 have HN:=Lh hn
 obtain ⟨PA,hPA⟩:∃ q,p.Ag=q:=⟨_,rfl⟩
 have HPA:=Lh hPA
 obtain ⟨R,hR⟩:∃ r,ZiK p c=r:=⟨_,rfl⟩
 have HR:Hid ((((decide (p.kind=5) || decide (p.kind=6)) && decide (p.c=c)) || p.g.any fun g=>decide (g.kind=3) && decide (g.c=c))=R):=Lh hR;rw [hR];simp only [KP.cells,hn,hPA] at hW0 HB0 ⊢;rw [hn] at hlen;unfold Zy at hc;clear hin hn hPA hR;have b0:=HB0.out;have hlt:=b0.lt;obtain ⟨d0,d1,d2,d3,d4,d5,d6,d7⟩:=b0.c8;simp at d0 d1 d2 d3 d4 d5 d6 d7;clear b0;go_enter Tryz.func28,Tryz.ntmps28
 go_upto_region 1 with fail
 clear hW0
 obtain ⟨q,hq⟩:∃ q,((decide (p.kind=5) || decide (p.kind=6)) && decide (p.c=c))=q:=⟨_,rfl⟩
 have HQ:=Lh hq;clear hq
 go_cut [19] (fun s19 wx=>s19 = .bool q∧wx=W0)
 case first =>
  by_cases h2:p.kind=5
  ·have y2:((p.kind:Int) == 5)=true:=by simp [h2]
   have hq:(p.c == c)=q:=by rw [← HQ.out,ZiA]; simp [h2]
   have HQ2:=Lh hq;clear h2 hq
   go_wp2_with fail
   go_meet;exact ⟨by rw [HQ2.out],rfl⟩
  ·have y2:((p.kind:Int) == 5)=false:=by simp; omega
   by_cases h3:p.kind=6
   ·have y3:((p.kind:Int) == 6)=true:=by simp [h3]
    have hq:(p.c == c)=q:=by rw [← HQ.out,ZiA]; simp [h3]
    have HQ2:=Lh hq;clear h2 h3 hq
    go_wp2_with fail
    go_meet;exact ⟨by rw [HQ2.out],rfl⟩
   ·have y3:((p.kind:Int) == 6)=false:=by simp; omega
    have hq:false=q:=by rw [← HQ.out]; simp [h2,h3]
    have HQ2:=Lh hq;clear h2 h3 hq
    go_wp2_with fail
    go_meet;exact ⟨by rw [← HQ2.out],rfl⟩
 case rest =>
  obtain ⟨rfl,rfl⟩:=hcut
  cases q with
  | true =>
    have hR:R=true:=by rw [← HR.out,HQ.out,Bool.true_or]
    have HRR:=Lh hR;clear hR
    go_wp2_with fail
    go_ret;exact ⟨by rw [HRR.out]; rfl,K0.out⟩
  | false =>
    have HAN:Hid ((p.g.any fun g=>decide (g.kind=3) && decide (g.c=c))=R):=Lh (by have:=HR.out; rwa [HQ.out,Bool.false_or] at this)
    obtain ⟨W1,hW1⟩:∃ W1,wc=W1:=⟨_,rfl⟩
    simp only [hW1] at *
    go_wp2_with fail
    go_loopw [5] (fun i wr=>∃ j:Nat,j≤n∧i = .int .i64 j∧wr=W1∧Hid (((p.g.take j).any fun g=>decide (g.kind=3) && decide (g.c=c))=false)) (fun i _=>n - (intOf i).toNat)
    case atStart=>exact ⟨0,Nat.zero_le _,rfl,rfl,Lh (by simp)⟩
    case round =>
     obtain ⟨j,hj,rfl,hwr,HF⟩:=hrel;subst hwr
     by_cases hlt2:j < n
     ·have hltI:(j:Int) < n:=by omega
      obtain ⟨b,off,g,hA,hb,hx,hmx,hG⟩:=Zb7 HIN.out.one.2.2.2.1.1 rfl (k:=j) (by rw [HN.out]; exact hlt2);have hbw:b < wr.heap.size:=Nat.lt_of_lt_of_le hb (Nat.le_trans hB K0.out.size);obtain rfl:PA=some ⟨b,off,none⟩:=HPA.out.symm.trans hA;have c0:=hG.c0;have c7:=hG.c7;have hg8:=(HIN.out.one.2.2.2.1.2 g hmx).1.1;have HX:=Lh hx;have HMX:=Lh hmx;clear hx hmx hA hG
      by_cases h3:g.kind=3
      ·have y3:((g.kind:Int) == 3)=true:=by simp [h3]
       by_cases hgc:g.c=c
       ·have yc:(g.c == c)=true:=by simp [hgc]
        have hR:R=true:=by rw [← HAN.out,List.any_eq_true]; exact ⟨g,HMX.out,by simp [h3,hgc]⟩
        have HRR:=Lh hR;clear hR h3 hgc
        go_wp2_with fail
        go_ret;exact ⟨by rw [HRR.out]; rfl,K0.out⟩
       ·have yc:(g.c == c)=false:=by simp [hgc]
        have HF2:Hid (((p.g.take (j+1)).any fun g=>decide (g.kind=3) && decide (g.c=c))=false):=Lh (by rw [ZM HX.out,List.any_append,HF.out,List.any_cons]; simp [hgc]);clear h3 hgc
        go_wp2_with fail
        go_roundw
        case rel=>exact ⟨j+1,by omega,by go_num,trivial,HF2⟩
        case measure=>simp [intOf]; omega
      ·have y3:((g.kind:Int) == 3)=false:=by simp; omega
       have HF2:Hid (((p.g.take (j+1)).any fun g=>decide (g.kind=3) && decide (g.c=c))=false):=Lh (by rw [ZM HX.out,List.any_append,HF.out,List.any_cons]; simp [h3]);clear h3
       go_wp2_with fail
       go_roundw
       case rel=>exact ⟨j+1,by omega,by go_num,trivial,HF2⟩
       case measure=>simp [intOf]; omega
     ·have hltI:¬ (j:Int) < n:=by omega
      obtain rfl:n=j:=by omega
      have htk:p.g.take n=p.g:=List.take_of_length_le (by rw [HN.out]; omega)
      have hR:R=false:=by rw [← HAN.out,← htk]; exact HF.out
      have HRR:=Lh hR;clear htk hR
      go_wp2_with fail
      go_ret;exact ⟨by rw [HRR.out]; rfl,K0.out⟩
def ZqD (n:Nat) (w:World) (e:Ending) (w':World):Prop:=∃ v,e = .returned v∧Hid (w'.ownsRow w.heap.size 3 1 v n (ZO (List.replicate n (-1))))∧Hid (Below w.heap.size w w')
theorem ZmG (n:Nat) (hn:n≤1000000) (w:World):Calls Tryz.prog 24 #[.int .i64 n] w (ZqD n w):=by
 obtain ⟨i0,hi0,hz0,hz1,hz2⟩:=info_parts Zcu;go_enter Tryz.func24,Tryz.ntmps24
 go_wp2_with fail
 go_loopw [3,4] (fun v i wr=>∃ j:Nat,j≤n∧i = .int .i64 j∧Hid (wr.ownsRow w.heap.size 3 1 v j (ZO (List.replicate j (-1))))∧Hid (Below w.heap.size w wr)) (fun _ i _=>n - (intOf i).toNat)
 case atStart=>exact ⟨0,Nat.zero_le _,rfl,Lh (World.ownsRow_nil _ _ _ _),Lh (Below.refl _ _)⟩
 case round =>
  obtain ⟨j,hj,rfl,HO,HK⟩:=hrel;obtain ⟨A,c,rfl⟩:=Zv HO.out;have hsz:=HK.out.size
  by_cases hlt:j < n
  ·have hltI:(j:Int) < n:=by omega
   have HO4:Hid ((wr.alloc (.cells #[.int .i64 (-1)] 3)).ownsRow w.heap.size 3 1 (.slice A j c) j (ZO (List.replicate j (-1)))):=Lh (HO.out.alloc _)
   have hz4:w.heap.size≤(wr.alloc (.cells #[.int .i64 (-1)] 3)).heap.size:=by simp; omega
   have hs1:j+1≤1099511627776:=by omega
   have hs2:(j+1) * 8≤140737488355328:=by omega
   have kb:Below w.heap.size wr (wr.alloc (.cells #[.int .i64 (-1)] 3)):=(Below.refl _ _).alloc hsz _;have HKB:=Lh kb;clear kb
   go_upto_region 4 with (at_builtin; refine Zcb Tryz.underlying32 hi0 hz0 hz1 hz2 rfl (by decide) HO4.out hz4 rfl (.tmp 10) (.tmp 11) rfl rfl wr.heap.size 1 1 #[.int .i64 (-1)] rfl (Blk.new wr _ _) rfl (by simp [Value.oneCell']) hs1 hs2 ?_
                          intro v5 w5 ho5 hg5 hb5 hat5;obtain ⟨A5,c5,rfl⟩:=Zv ho5
                          have HO5:Hid (w5.ownsRow w.heap.size 3 1 (.slice A5 (j+1) c5) (j+1) (ZO (List.replicate (j+1) (-1)))):=Lh (by
                           have e:ZO (List.replicate (j+1) (-1))=ZO (List.replicate j (-1))++[.int .i64 (-1)]:=by rw [List.replicate_succ']; simp [ZO]
                           rw [e]; exact ho5)
                          have HK5:Hid (Below w.heap.size w w5):=Lh (HK.out.trans (HKB.out.trans hb5))
                          clear ho5 hg5 hb5 hat5)
   go_wp2_with fail
   go_roundw
   case rel=>exact ⟨j+1,by omega,by go_num,HO5,HK5⟩
   case measure=>simp [intOf]; omega
  ·have hltI:¬ (j:Int) < n:=by omega
   obtain rfl:n=j:=by omega
   go_wp2_with fail
   go_ret;exact ⟨_,rfl,HO,HK⟩
theorem ZhV {P:Program} {ops:Array Oper} {rest:List Oper} {o:Oper} {a:Act} {Q:Exit→Act→World→Prop} {w:World} {t B e size bytes:Nat} {i:TypeInfo} {z v:Value} {n:Nat} {xs:List Value}
  (ht:P.underlying t=some (.slice e)) (hi:P.info? e=some i) (hz:i.zero=some z) (hsize:i.size=size) (hby:i.bytes=bytes) (hzs:z.cells.size=size) (hsz:0 < size)
  (hown:w.ownsRow B e size v n xs) (hB:B≤w.heap.size) (hgd:o.guard=none) (s x:Operand)
  (ho:o.op = .call { callee:=.builtin .append,args:=#[s,x],argTypes:=#[t,t] }) (hs:a.eval s=v)
  (A:Option Addr) (m c D:Nat) (news:List Value) (hx:a.eval x = .slice A m c) (hr:Zo w D size A m news) (h1:∀ u∈news,u.oneCell'=true)
  (h63:n+m≤1099511627776) (hbytes:(n+m) * bytes≤140737488355328)
  (h:∀ v' w',w'.ownsRow B e size v' (n+m) (xs++news)→w.grownBy w' v.ownBlock→Below B w w'→(v'.ownBlock=v.ownBlock∨v'.ownBlock=some w.heap.size)→wpList P ops Q rest (a.put o.dst v') w') :
  wpList P ops Q (o :: rest) a w:=by
 refine Zcn w hgd s x t ho B e i z size bytes ht hi hz hsize hby hzs hsz v n xs hs hown D A m c news hx hr h1 (by unfold maxLen; omega) hbytes hB ?_;intro v' w' hown' hg hat;exact h v' w' hown' hg ((Below.refl _ _).grown hg hB (fun k hk=>(hown.lt k hk).1)) hat
theorem Zgh {P:Program} {ops:Array Oper} {o:Oper} {a:Act} {K:Act→World→Prop} {Q:Exit→Act→World→Prop} {E:Prop} {w:World} {t B e size bytes:Nat} {i:TypeInfo} {z v:Value} {n:Nat} {xs:List Value}
  (ht:P.underlying t=some (.slice e)) (hi:P.info? e=some i) (hz:i.zero=some z) (hsize:i.size=size) (hby:i.bytes=bytes) (hzs:z.cells.size=size) (hsz:0 < size)
  (hown:w.ownsRow B e size v n xs) (hB:B≤w.heap.size) (hgd:o.guard=none) (s x:Operand)
  (ho:o.op = .call { callee:=.builtin .append,args:=#[s,x],argTypes:=#[t,t] }) (hs:a.eval s=v)
  (A:Option Addr) (m c D:Nat) (news:List Value) (hx:a.eval x = .slice A m c) (hr:Zo w D size A m news) (h1:∀ u∈news,u.oneCell'=true)
  (h63:n+m≤1099511627776) (hbytes:(n+m) * bytes≤140737488355328)
  (h:∀ v' w',w'.ownsRow B e size v' (n+m) (xs++news)→w.grownBy w' v.ownBlock→Below B w w'→(v'.ownBlock=v.ownBlock∨v'.ownBlock=some w.heap.size)→K (a.put o.dst v') w') :
  if Region.wanted o (yielded ops a.tmps)=true then Oper.wp P o a w K Q else E:=by
 refine Zc3 w hgd s x t ho B e i z size bytes ht hi hz hsize hby hzs hsz v n xs hs hown D A m c news hx hr h1 (by unfold maxLen; omega) hbytes hB ?_;intro v' w' hown' hg hat;exact h v' w' hown' hg ((Below.refl _ _).grown hg hB (fun k hk=>(hown.lt k hk).1)) hat
theorem Zg3 {l:List KE}:∀ u∈ZgE l,u.oneCell'=true:=fun u hu=>by
 unfold ZgE at hu;obtain ⟨e,-,hu⟩:=List.mem_flatMap.1 hu;simp only [KE.cells,List.mem_cons,List.not_mem_nil,or_false] at hu
 rcases hu with rfl | rfl | rfl | rfl | rfl | rfl <;> simp [Value.oneCell']
theorem Zis (a b:List KE):ZgE (a++b)=ZgE a++ZgE b:=by simp [ZgE]
end Go.Proofs.YtjndhfcfcedheaaGreatDoor
