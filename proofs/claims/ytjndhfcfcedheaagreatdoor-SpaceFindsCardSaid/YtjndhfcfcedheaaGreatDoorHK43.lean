/- Texts that belong together: KZ KZA KZB KZC. -/
import Derived.Test.YtjndhfcfcedheaaGreatDoorHK6
import Derived.MapKept
import Derived.Test.YtjndhfcfcedheaaGreatDoorHK42
import Derived.Test.YtjndhfcfcedheaaGreatDoorHK32
import Derived.Test.YtjndhfcfcedheaaGreatDoorHK3
import Derived.Test.YtjndhfcfcedheaaGreatDoorHK8
set_option linter.unusedVariables false
set_option linter.unusedSimpArgs false
set_option maxRecDepth 100000
set_option maxHeartbeats 16000000
namespace Go.Proofs.YtjndhfcfcedheaaGreatDoor
open Go.RowKit
def ZdD:Nat→List (Nat×Value)→List MapEntry
 | _,[]=>[]
 | i,p :: l=>{ key:=.int .u8 (p.1:Nat),val:=p.2,born:=i } :: ZdD (i+1) l
theorem ZeY:∀ (i:Nat) (a b:List (Nat×Value)),ZdD i (a++b)=ZdD i a++ZdD (i+a.length) b
 | i,[],b=>by simp [ZdD]
 | i,p :: a,b=>by
   rw [List.cons_append,ZdD,ZdD,ZeY (i+1) a b,List.cons_append,List.length_cons,show i+1+a.length=i+(a.length+1) by omega]
def Zgj (k:Nat):List (Nat×Value)→Nat→Option (Nat×Value)
 | [],_=>none
 | p :: l,i=>if k=p.1 then some (i,p.2) else Zgj k l (i+1)
theorem ZfV (k:Nat):∀ (l:List (Nat×Value)) (i j:Nat),Instr.findNow (.int .u8) (.int .u8 (k:Nat)) (ZdD i l) j=some (Zgj k l j)
 | [],i,j=>rfl
 | p :: l,i,j=>by
   rw [ZdD,Instr.findNow,Zgj]
   by_cases h:k=p.1
   ·have e:Instr.sameNow (.int .u8) (.int .u8 (k:Nat)) (.int .u8 (p.1:Nat))=some true:=by simp [Instr.sameNow,h]
    simp only [e,if_pos h]
   ·have e:Instr.sameNow (.int .u8) (.int .u8 (k:Nat)) (.int .u8 (p.1:Nat))=some false:=by simp [Instr.sameNow]; omega
    simp only [e,if_neg h];exact ZfV k l (i+1) (j+1)
theorem ZeJ {k:Nat}:∀ {l:List (Nat×Value)} {j:Nat},(∀ p∈l,p.1≠k)→Zgj k l j=none
 | [],_,_=>rfl
 | p :: l,j,h=>by
   rw [Zgj,if_neg (fun e=>h p (by simp) e.symm)];exact ZeJ fun q hq=>h q (by simp [hq])
def ZqT (W:World) (r:Nat) (l:List (Nat×Value)):Prop:=W.heap[r]? = some (.map (ZdD 0 l).toArray l.length)
theorem Zg1:Tryz.prog.underlying 128=some (.map 24 121):=Tryz.underlying128
theorem ZaH {W:World} {r k:Nat} {l:List (Nat×Value)} (h:ZqT W r l) (hn:∀ p∈l,p.1≠k) (v:Value) :
  ∃ W',(Instr.mapUpdate 128 (.map (some r)) (.int .u8 (k:Nat)) v).run Tryz.prog W = .ok () W'∧ZqT W' r (l++[(k,v)])∧∀ B w0,B≤r→Below B w0 W→Below B w0 W':=by
 have hf:Instr.findNow (.int .u8) (.int .u8 (k:Nat)) (ZdD 0 l).toArray.toList 0=some none:=by
  rw [List.toList_toArray,ZfV,ZeJ hn]
 have hlt:r < W.heap.size:=(Array.getElem?_eq_some_iff.1 h).1;refine ⟨{ W with heap:=W.heap.setIfInBounds r (.map ((ZdD 0 l).toArray.push { key:=.int .u8 (k:Nat),val:=v,born:=l.length }) (l.length+1)) },?_,?_,?_⟩
 ·have h1:=MapKept.run_getObj_map (P:=Tryz.prog) h;have h2:=MapKept.run_checkKey (P:=Tryz.prog) (w:=W) (kt:=24) Tryz.underlying24 (k:=.int .u8 (k:Nat)) (by rfl) false 9999;have h3:=MapKept.run_findKey (P:=Tryz.prog) (w:=W) (kt:=24) Tryz.underlying24 hf;have h4:=fun o=>MapKept.run_setObj_map (P:=Tryz.prog) o h
  simp [Instr.mapUpdate,run_underlying Zg1,h1,h2,h3,h4,Result.andThen]
 ·show (W.heap.setIfInBounds r _)[r]? = _
  rw [Array.getElem?_setIfInBounds_self_of_lt hlt]
  congr 2
  ·rw [ZeY,Nat.zero_add]
   simp [ZdD]
  ·simp
 ·intro B w0 hB hb;refine ⟨hb.os,hb.tape,hb.output,by simpa using hb.size,fun i hi=>?_⟩
  show (W.heap.setIfInBounds r _)[i]? = _
  rw [Array.getElem?_setIfInBounds_ne (by omega)];exact hb.block i hi
theorem ZkJ {W:World} {r k:Nat} {l:List (Nat×Value)} (h:ZqT W r l) {v:Value} (hv:(match Zgj k l 0 with
   | some (_,v)=>v
   | none=>Value.nilFunc)=v) :
  (Instr.lookup 128 (.map (some r)) (.int .u8 (k:Nat)) false).run Tryz.prog W = .ok v W:=by
 have hf:Instr.findNow (.int .u8) (.int .u8 (k:Nat)) (ZdD 0 l).toArray.toList 0=some (Zgj k l 0):=by
  rw [List.toList_toArray,ZfV]
 have h1:=MapKept.run_getObj_map (P:=Tryz.prog) h;have h2:(Instr.checkKey (ZdD 0 l).isEmpty 10000 24 (.int .u8 (k:Nat))).run Tryz.prog W = .ok () W:=MapKept.run_checkKey (P:=Tryz.prog) (w:=W) (kt:=24) Tryz.underlying24 (k:=.int .u8 (k:Nat)) (by rfl) (ZdD 0 l).isEmpty 9999;have h3:=MapKept.run_findKey (P:=Tryz.prog) (w:=W) (kt:=24) Tryz.underlying24 hf
 have hz:(zeroValue 121).run Tryz.prog W = .ok Value.nilFunc W:=by kernel_rfl
 rw [List.toList_toArray] at h3;subst hv
 cases hk:Zgj k l 0 with
 | none =>
   rw [hk] at h3
   simp [Instr.lookup,run_underlying Zg1,h1,h2,h3,hz,Result.andThen]
 | some q =>
   obtain ⟨i,v⟩:=q;rw [hk] at h3
   simp [Instr.lookup,run_underlying Zg1,h1,h2,h3,Result.andThen]
def Zca (bc:Nat) (k:Nat):Value:=match k with
 | 1=>(.func (.func 66) #[.pointer (some ⟨bc,0,none⟩)] #[])
 | 2=>(.func (.func 66) #[.pointer (some ⟨bc,0,none⟩)] #[])
 | 3=>(.func (.func 67) #[.pointer (some ⟨bc,0,none⟩)] #[])
 | 4=>(.func (.func 68) #[.pointer (some ⟨bc,0,none⟩)] #[])
 | 5=>(.func (.func 69) #[.pointer (some ⟨bc,0,none⟩)] #[])
 | 6=>(.func (.func 70) #[.pointer (some ⟨bc,0,none⟩)] #[])
 | 7=>(.func (.func 71) #[.pointer (some ⟨bc,0,none⟩)] #[])
 | 8=>(.func (.func 72) #[.pointer (some ⟨bc,0,none⟩)] #[])
 | 9=>(.func (.func 73) #[.pointer (some ⟨bc,0,none⟩)] #[])
 | 10=>(.func (.func 74) #[.pointer (some ⟨bc,0,none⟩)] #[])
 | 11=>(.func (.func 75) #[.pointer (some ⟨bc,0,none⟩)] #[])
 | 12=>(.func (.func 76) #[.pointer (some ⟨bc,0,none⟩)] #[])
 | 13=>(.func (.func 77) #[.pointer (some ⟨bc,0,none⟩)] #[])
 | 14=>(.func (.func 76) #[.pointer (some ⟨bc,0,none⟩)] #[])
 | 15=>(.func (.func 76) #[.pointer (some ⟨bc,0,none⟩)] #[])
 | _=>Value.nilFunc
def ZlQ (bc:Nat):List (Nat×Value):=[(1,(.func (.func 66) #[.pointer (some ⟨bc,0,none⟩)] #[])),(2,(.func (.func 66) #[.pointer (some ⟨bc,0,none⟩)] #[])),(3,(.func (.func 67) #[.pointer (some ⟨bc,0,none⟩)] #[])),(4,(.func (.func 68) #[.pointer (some ⟨bc,0,none⟩)] #[])),(5,(.func (.func 69) #[.pointer (some ⟨bc,0,none⟩)] #[])),(6,(.func (.func 70) #[.pointer (some ⟨bc,0,none⟩)] #[])),(7,(.func (.func 71) #[.pointer (some ⟨bc,0,none⟩)] #[])),(8,(.func (.func 72) #[.pointer (some ⟨bc,0,none⟩)] #[])),(9,(.func (.func 73) #[.pointer (some ⟨bc,0,none⟩)] #[])),(10,(.func (.func 74) #[.pointer (some ⟨bc,0,none⟩)] #[])),(11,(.func (.func 75) #[.pointer (some ⟨bc,0,none⟩)] #[])),(12,(.func (.func 76) #[.pointer (some ⟨bc,0,none⟩)] #[])),(13,(.func (.func 77) #[.pointer (some ⟨bc,0,none⟩)] #[])),(14,(.func (.func 76) #[.pointer (some ⟨bc,0,none⟩)] #[])),(15,(.func (.func 76) #[.pointer (some ⟨bc,0,none⟩)] #[]))]
theorem Zix (bc k:Nat):(match Zgj k (ZlQ bc) 0 with
  | some (_,v)=>v
  | none=>Value.nilFunc)=Zca bc k:=by
 match k with
 | 0=>rfl
 | 1=>rfl
 | 2=>rfl
 | 3=>rfl
 | 4=>rfl
 | 5=>rfl
 | 6=>rfl
 | 7=>rfl
 | 8=>rfl
 | 9=>rfl
 | 10=>rfl
 | 11=>rfl
 | 12=>rfl
 | 13=>rfl
 | 14=>rfl
 | 15=>rfl
 | n+16 =>
   have h:Zgj (n+16) (ZlQ bc) 0=none:=ZeJ (by simp [ZlQ]);rw [h]
   rfl
theorem Zde (bc kd:Nat) (w:World):Calls Tryz.prog 58 #[.pointer (some ⟨bc,0,none⟩),.int .u8 kd] w (Zu (Zca bc kd) w):=by
 obtain ⟨W0,hW0⟩:∃ W,w.alloc (.map #[] 0)=W:=⟨_,rfl⟩
 have hmk:(Instr.makeMap 128 none).run Tryz.prog w = .ok (.map (some w.heap.size)) W0:=by rw [← hW0]; rfl
 have M0:ZqT W0 w.heap.size []:=by rw [← hW0]; exact heap_alloc_new w _
 have B0:Below w.heap.size w W0:=by rw [← hW0]; exact (Below.refl _ _).alloc (Nat.le_refl _) _
 obtain ⟨W1,h1,M1,B1⟩:=ZaH (k:=1) M0 (by simp) (.func (.func 66) #[.pointer (some ⟨bc,0,none⟩)] #[]);replace B1:=B1 _ _ (Nat.le_refl _) B0;replace h1:(Instr.mapUpdate 128 (.map (some w.heap.size)) (.int .u8 1) (.func (.func 66) #[.pointer (some ⟨bc,0,none⟩)] #[])).run Tryz.prog W0 = .ok () W1:=h1;obtain ⟨W2,h2,M2,B2⟩:=ZaH (k:=2) M1 (by simp) (.func (.func 66) #[.pointer (some ⟨bc,0,none⟩)] #[]);replace B2:=B2 _ _ (Nat.le_refl _) B1;replace h2:(Instr.mapUpdate 128 (.map (some w.heap.size)) (.int .u8 2) (.func (.func 66) #[.pointer (some ⟨bc,0,none⟩)] #[])).run Tryz.prog W1 = .ok () W2:=h2;obtain ⟨W3,h3,M3,B3⟩:=ZaH (k:=3) M2 (by simp) (.func (.func 67) #[.pointer (some ⟨bc,0,none⟩)] #[]);replace B3:=B3 _ _ (Nat.le_refl _) B2;replace h3:(Instr.mapUpdate 128 (.map (some w.heap.size)) (.int .u8 3) (.func (.func 67) #[.pointer (some ⟨bc,0,none⟩)] #[])).run Tryz.prog W2 = .ok () W3:=h3;obtain ⟨W4,h4,M4,B4⟩:=ZaH (k:=4) M3 (by simp) (.func (.func 68) #[.pointer (some ⟨bc,0,none⟩)] #[]);replace B4:=B4 _ _ (Nat.le_refl _) B3;replace h4:(Instr.mapUpdate 128 (.map (some w.heap.size)) (.int .u8 4) (.func (.func 68) #[.pointer (some ⟨bc,0,none⟩)] #[])).run Tryz.prog W3 = .ok () W4:=h4;obtain ⟨W5,h5,M5,B5⟩:=ZaH (k:=5) M4 (by simp) (.func (.func 69) #[.pointer (some ⟨bc,0,none⟩)] #[]);replace B5:=B5 _ _ (Nat.le_refl _) B4;replace h5:(Instr.mapUpdate 128 (.map (some w.heap.size)) (.int .u8 5) (.func (.func 69) #[.pointer (some ⟨bc,0,none⟩)] #[])).run Tryz.prog W4 = .ok () W5:=h5;obtain ⟨W6,h6,M6,B6⟩:=ZaH (k:=6) M5 (by simp) (.func (.func 70) #[.pointer (some ⟨bc,0,none⟩)] #[]);replace B6:=B6 _ _ (Nat.le_refl _) B5;replace h6:(Instr.mapUpdate 128 (.map (some w.heap.size)) (.int .u8 6) (.func (.func 70) #[.pointer (some ⟨bc,0,none⟩)] #[])).run Tryz.prog W5 = .ok () W6:=h6;obtain ⟨W7,h7,M7,B7⟩:=ZaH (k:=7) M6 (by simp) (.func (.func 71) #[.pointer (some ⟨bc,0,none⟩)] #[]);replace B7:=B7 _ _ (Nat.le_refl _) B6;replace h7:(Instr.mapUpdate 128 (.map (some w.heap.size)) (.int .u8 7) (.func (.func 71) #[.pointer (some ⟨bc,0,none⟩)] #[])).run Tryz.prog W6 = .ok () W7:=h7;obtain ⟨W8,h8,M8,B8⟩:=ZaH (k:=8) M7 (by simp) (.func (.func 72) #[.pointer (some ⟨bc,0,none⟩)] #[]);replace B8:=B8 _ _ (Nat.le_refl _) B7;replace h8:(Instr.mapUpdate 128 (.map (some w.heap.size)) (.int .u8 8) (.func (.func 72) #[.pointer (some ⟨bc,0,none⟩)] #[])).run Tryz.prog W7 = .ok () W8:=h8;obtain ⟨W9,h9,M9,B9⟩:=ZaH (k:=9) M8 (by simp) (.func (.func 73) #[.pointer (some ⟨bc,0,none⟩)] #[]);replace B9:=B9 _ _ (Nat.le_refl _) B8;replace h9:(Instr.mapUpdate 128 (.map (some w.heap.size)) (.int .u8 9) (.func (.func 73) #[.pointer (some ⟨bc,0,none⟩)] #[])).run Tryz.prog W8 = .ok () W9:=h9;obtain ⟨W10,h10,M10,B10⟩:=ZaH (k:=10) M9 (by simp) (.func (.func 74) #[.pointer (some ⟨bc,0,none⟩)] #[]);replace B10:=B10 _ _ (Nat.le_refl _) B9;replace h10:(Instr.mapUpdate 128 (.map (some w.heap.size)) (.int .u8 10) (.func (.func 74) #[.pointer (some ⟨bc,0,none⟩)] #[])).run Tryz.prog W9 = .ok () W10:=h10;obtain ⟨W11,h11,M11,B11⟩:=ZaH (k:=11) M10 (by simp) (.func (.func 75) #[.pointer (some ⟨bc,0,none⟩)] #[]);replace B11:=B11 _ _ (Nat.le_refl _) B10;replace h11:(Instr.mapUpdate 128 (.map (some w.heap.size)) (.int .u8 11) (.func (.func 75) #[.pointer (some ⟨bc,0,none⟩)] #[])).run Tryz.prog W10 = .ok () W11:=h11;obtain ⟨W12,h12,M12,B12⟩:=ZaH (k:=12) M11 (by simp) (.func (.func 76) #[.pointer (some ⟨bc,0,none⟩)] #[]);replace B12:=B12 _ _ (Nat.le_refl _) B11;replace h12:(Instr.mapUpdate 128 (.map (some w.heap.size)) (.int .u8 12) (.func (.func 76) #[.pointer (some ⟨bc,0,none⟩)] #[])).run Tryz.prog W11 = .ok () W12:=h12;obtain ⟨W13,h13,M13,B13⟩:=ZaH (k:=13) M12 (by simp) (.func (.func 77) #[.pointer (some ⟨bc,0,none⟩)] #[]);replace B13:=B13 _ _ (Nat.le_refl _) B12;replace h13:(Instr.mapUpdate 128 (.map (some w.heap.size)) (.int .u8 13) (.func (.func 77) #[.pointer (some ⟨bc,0,none⟩)] #[])).run Tryz.prog W12 = .ok () W13:=h13;obtain ⟨W14,h14,M14,B14⟩:=ZaH (k:=14) M13 (by simp) (.func (.func 76) #[.pointer (some ⟨bc,0,none⟩)] #[]);replace B14:=B14 _ _ (Nat.le_refl _) B13;replace h14:(Instr.mapUpdate 128 (.map (some w.heap.size)) (.int .u8 14) (.func (.func 76) #[.pointer (some ⟨bc,0,none⟩)] #[])).run Tryz.prog W13 = .ok () W14:=h14;obtain ⟨W15,h15,M15,B15⟩:=ZaH (k:=15) M14 (by simp) (.func (.func 76) #[.pointer (some ⟨bc,0,none⟩)] #[]);replace B15:=B15 _ _ (Nat.le_refl _) B14;replace h15:(Instr.mapUpdate 128 (.map (some w.heap.size)) (.int .u8 15) (.func (.func 76) #[.pointer (some ⟨bc,0,none⟩)] #[])).run Tryz.prog W14 = .ok () W15:=h15;have HL:=ZkJ M15 (k:=kd) (Zix bc kd);have HB:=Lh B15;generalize Zca bc kd=V at *;clear B0 B1 B2 B3 B4 B5 B6 B7 B8 B9 B10 B11 B12 B13 B14 B15 M0 M1 M2 M3 M4 M5 M6 M7 M8 M9 M10 M11 M12 M13 M14 M15;go_enter Tryz.func58,Tryz.ntmps58
 go_wp2
 go_ret;exact ⟨rfl,HB.out⟩
theorem Zg5 (k:KK) (n:Int) (p:KP) (B bc:Nat) (w:World) (hc:Chk w B bc k n) (hi:p.One w B) :
  Calls Tryz.prog 76 #[.pointer (some ⟨bc,0,none⟩),.agg p.cells] w (Zu (.bool (Zar p false false 0 0 0 0 0 16 0 0 && p.g.all (ZR k.vars k.chans.length (p.kind == 12)))) w):=by
 obtain ⟨W0,hW0⟩:∃ W,(w.alloc (.cells #[.pointer (some ⟨bc,0,none⟩)] 95)).alloc (.cells p.cells 31)=W:=⟨_,rfl⟩
 obtain ⟨l1,l2,l3⟩:=Zf8 w #[.pointer (some ⟨bc,0,none⟩)] p.cells 95 31;rw [hW0] at l1 l2 l3;have HK0:=Lh l1;have HCA:=Lh (show Zpg W0 B bc w.heap.size (w.heap.size+1) k n p.cells from ⟨hc.call l1,l2,l3⟩);have HC:=Lh (fun (w1:World) (hb:Below W0.heap.size W0 w1)=>Zj1 k n p B bc w.heap.size (w.heap.size+1) w1 (HCA.out.call hb) ((hi.below (l1.mono hc.leB)).below (hb.mono (Nat.le_trans hc.leB l1.size))));have HB0:=Lh l3;have HSh:=Lh (fun w1=>Za1 p 0 0 0 0 0 16 0 0 w1);generalize p.g.all (ZR k.vars k.chans.length (p.kind == 12))=ga at *;generalize Zar p false false 0 0 0 0 0 16 0 0=sb at *;simp only [KP.cells] at hW0 l3 HB0 HSh ⊢;generalize p.g.length=mg at *;obtain ⟨e0,e1,e2,e3,e4,e5,e6,e7⟩:=l3.c8;simp at e0 e1 e2 e3 e4 e5 e6 e7;clear l1 l2 l3 hc hi
 cases sb with
 | false =>
   go_enter Tryz.func76,Tryz.ntmps76
   go_wp2_with (go_at_call 88; (with_reducible refine (HSh.out _).mono ?_); rintro e1 w1 ⟨rfl,hb1⟩)
   go_ret;exact ⟨rfl,HK0.out.trans (hb1.mono HK0.out.size)⟩
 | true =>
   go_enter Tryz.func76,Tryz.ntmps76
   go_wp2_with (first
    | (go_at_call 88; (with_reducible refine (HSh.out _).mono ?_); rintro e1 w1 ⟨rfl,hb1⟩
       have x1:=HB0.out.call hb1;obtain ⟨f0,f1,f2,f3,f4,f5,f6,f7⟩:=x1.c8;simp at f0 f1 f2 f3 f4 f5 f6 f7;have HB1:=Lh hb1
       clear x1 hb1)
    | (go_at_call 93; (with_reducible refine (HC.out _ HB1.out).mono ?_); rintro e2 w2 ⟨rfl,hb2⟩))
   go_ret;exact ⟨by simp,HK0.out.trans ((HB1.out.trans (hb2.mono HB1.out.size)).mono HK0.out.size)⟩
theorem ofB {F:Nat} {args:Array Value} {w:World} {a b:Bool} (h:a=b) (hc:Calls Tryz.prog F args w (Zu (.bool b) w)):Calls Tryz.prog F args w (Zu (.bool a) w):=h ▸ hc
theorem Zdi (k:KK) (n:Int) (p:KP) (B bc:Nat) (hf:Zca bc p.kind≠Value.nilFunc) :
  ∃ F:Nat,Zca bc p.kind = .func (.func F) #[.pointer (some ⟨bc,0,none⟩)] #[]∧(∀ args w,(callFunc F args).run Tryz.prog w = .ok (.enter F args) w)∧∀ w,Chk w B bc k n→p.One w B→Calls Tryz.prog F #[.pointer (some ⟨bc,0,none⟩),.agg p.cells] w (Zu (.bool (ZW k.vars k.chans.length p)) w):=by
 obtain ⟨kd,c,v,item,At,ct,tos,Ae,ce,e,Ag,cg,g,Al,cl,l⟩:=p
 match kd with
 | 0=>exact absurd rfl hf
 | 1=>exact ⟨_,rfl,enters_of Tryz.func66 (by kernel_rfl) rfl,fun w hc hi=>ofB (Zw ⟨1,c,v,item,At,ct,tos,Ae,ce,e,Ag,cg,g,Al,cl,l⟩ false false 0 0 0 0 0 0 0 0) (ZhL k n ⟨1,c,v,item,At,ct,tos,Ae,ce,e,Ag,cg,g,Al,cl,l⟩ B bc w hc hi)⟩
 | 2=>exact ⟨_,rfl,enters_of Tryz.func66 (by kernel_rfl) rfl,fun w hc hi=>ofB (Zw ⟨2,c,v,item,At,ct,tos,Ae,ce,e,Ag,cg,g,Al,cl,l⟩ false false 0 0 0 0 0 0 0 0) (ZhL k n ⟨2,c,v,item,At,ct,tos,Ae,ce,e,Ag,cg,g,Al,cl,l⟩ B bc w hc hi)⟩
 | 3=>exact ⟨_,rfl,enters_of Tryz.func67 (by kernel_rfl) rfl,fun w hc hi=>ofB (congrArg (· && _) (Zw ⟨3,c,v,item,At,ct,tos,Ae,ce,e,Ag,cg,g,Al,cl,l⟩ false true 0 0 0 0 0 0 0 0)) (ZoF k n ⟨3,c,v,item,At,ct,tos,Ae,ce,e,Ag,cg,g,Al,cl,l⟩ B bc w hc hi)⟩
 | 4=>exact ⟨_,rfl,enters_of Tryz.func68 (by kernel_rfl) rfl,fun w hc hi=>ofB ((Bool.and_assoc _ _ _).trans (congrArg (· && _) (Zw ⟨4,c,v,item,At,ct,tos,Ae,ce,e,Ag,cg,g,Al,cl,l⟩ false false 1 8 1 8 0 0 0 0))) (Zne k n ⟨4,c,v,item,At,ct,tos,Ae,ce,e,Ag,cg,g,Al,cl,l⟩ B bc w hc hi)⟩
 | 5=>exact ⟨_,rfl,enters_of Tryz.func69 (by kernel_rfl) rfl,fun w hc hi=>ofB (congrArg (· && _) (Zw ⟨5,c,v,item,At,ct,tos,Ae,ce,e,Ag,cg,g,Al,cl,l⟩ true false 1 1 0 0 0 0 0 0)) (k_in k n ⟨5,c,v,item,At,ct,tos,Ae,ce,e,Ag,cg,g,Al,cl,l⟩ B bc w hc hi)⟩
 | 6=>exact ⟨_,rfl,enters_of Tryz.func70 (by kernel_rfl) rfl,fun w hc hi=>ofB (congrArg (· && _) (congrArg (· && _) (Zw ⟨6,c,v,item,At,ct,tos,Ae,ce,e,Ag,cg,g,Al,cl,l⟩ true false 0 0 1 1 0 0 0 0))) (k_out k n ⟨6,c,v,item,At,ct,tos,Ae,ce,e,Ag,cg,g,Al,cl,l⟩ B bc w hc hi)⟩
 | 7=>exact ⟨_,rfl,enters_of Tryz.func71 (by kernel_rfl) rfl,fun w hc hi=>ofB (congrArg (· && _) (Zw ⟨7,c,v,item,At,ct,tos,Ae,ce,e,Ag,cg,g,Al,cl,l⟩ false false 1 1 0 0 0 0 0 0)) (ZpL k n ⟨7,c,v,item,At,ct,tos,Ae,ce,e,Ag,cg,g,Al,cl,l⟩ B bc w hc hi)⟩
 | 8=>exact ⟨_,rfl,enters_of Tryz.func72 (by kernel_rfl) rfl,fun w hc hi=>ofB (congrArg (· && _) (Zw ⟨8,c,v,item,At,ct,tos,Ae,ce,e,Ag,cg,g,Al,cl,l⟩ false false 0 0 1 1 0 0 0 0)) (ZoG k n ⟨8,c,v,item,At,ct,tos,Ae,ce,e,Ag,cg,g,Al,cl,l⟩ B bc w hc hi)⟩
 | 9=>exact ⟨_,rfl,enters_of Tryz.func73 (by kernel_rfl) rfl,fun w hc hi=>ofB (Zw ⟨9,c,v,item,At,ct,tos,Ae,ce,e,Ag,cg,g,Al,cl,l⟩ false false 0 0 0 0 0 0 0 2048) (k_seq k n ⟨9,c,v,item,At,ct,tos,Ae,ce,e,Ag,cg,g,Al,cl,l⟩ B bc w hc hi)⟩
 | 10=>exact ⟨_,rfl,enters_of Tryz.func74 (by kernel_rfl) rfl,fun w hc hi=>ofB (Zw ⟨10,c,v,item,At,ct,tos,Ae,ce,e,Ag,cg,g,Al,cl,l⟩ false false 0 0 0 0 0 0 0 16) (k_par k n ⟨10,c,v,item,At,ct,tos,Ae,ce,e,Ag,cg,g,Al,cl,l⟩ B bc w hc hi)⟩
 | 11=>exact ⟨_,rfl,enters_of Tryz.func75 (by kernel_rfl) rfl,fun w hc hi=>ofB (Zw ⟨11,c,v,item,At,ct,tos,Ae,ce,e,Ag,cg,g,Al,cl,l⟩ false false 0 0 0 0 0 0 2 2) (k_pri k n ⟨11,c,v,item,At,ct,tos,Ae,ce,e,Ag,cg,g,Al,cl,l⟩ B bc w hc hi)⟩
 | 12=>exact ⟨_,rfl,enters_of Tryz.func76 (by kernel_rfl) rfl,fun w hc hi=>ofB (congrArg (· && _) (Zw ⟨12,c,v,item,At,ct,tos,Ae,ce,e,Ag,cg,g,Al,cl,l⟩ false false 0 0 0 0 0 16 0 0)) (Zg5 k n ⟨12,c,v,item,At,ct,tos,Ae,ce,e,Ag,cg,g,Al,cl,l⟩ B bc w hc hi)⟩
 | 13=>exact ⟨_,rfl,enters_of Tryz.func77 (by kernel_rfl) rfl,fun w hc hi=>ofB (congrArg (· && _) (Zw ⟨13,c,v,item,At,ct,tos,Ae,ce,e,Ag,cg,g,Al,cl,l⟩ false false 0 0 1 1 0 0 1 1)) (ZpM k n ⟨13,c,v,item,At,ct,tos,Ae,ce,e,Ag,cg,g,Al,cl,l⟩ B bc w hc hi)⟩
 | 14=>exact ⟨_,rfl,enters_of Tryz.func76 (by kernel_rfl) rfl,fun w hc hi=>ofB (congrArg (· && _) (Zw ⟨14,c,v,item,At,ct,tos,Ae,ce,e,Ag,cg,g,Al,cl,l⟩ false false 0 0 0 0 0 16 0 0)) (Zg5 k n ⟨14,c,v,item,At,ct,tos,Ae,ce,e,Ag,cg,g,Al,cl,l⟩ B bc w hc hi)⟩
 | 15=>exact ⟨_,rfl,enters_of Tryz.func76 (by kernel_rfl) rfl,fun w hc hi=>ofB (congrArg (· && _) (Zw ⟨15,c,v,item,At,ct,tos,Ae,ce,e,Ag,cg,g,Al,cl,l⟩ false false 0 0 0 0 0 16 0 0)) (Zg5 k n ⟨15,c,v,item,At,ct,tos,Ae,ce,e,Ag,cg,g,Al,cl,l⟩ B bc w hc hi)⟩
 | m+16=>exact absurd rfl hf
theorem Zj8 {bc:Nat} {vs:List ZZ} {nc:Nat} {p:KP} (hf:Zca bc p.kind=Value.nilFunc):ZW vs nc p=false:=by
 obtain ⟨kd,c,v,item,At,ct,tos,Ae,ce,e,Ag,cg,g,Al,cl,l⟩:=p
 match kd with
 | 0=>rfl
 | 1 | 2 | 3 | 4 | 5 | 6 | 7 | 8 | 9 | 10 | 11 | 12 | 13 | 14 | 15=>cases hf
 | m+16=>rfl
section
theorem Znn (w:World) (d:Nat):(Op.equalIn (d+1) 121 Value.nilFunc Value.nilFunc).run Tryz.prog w = .ok true w:=by
 simp [Op.equalIn,run_underlying (Tryz.underlying121)]
theorem Znm (w:World) (d:Nat) (f:Fn) (a b:Array Value):(Op.equalIn (d+1) 121 (.func f a b) Value.nilFunc).run Tryz.prog w = .ok false w:=by
 simp [Op.equalIn,run_underlying (Tryz.underlying121)]
@[go_sem ↓] theorem fn_nil (w:World):(binOp .eql 121 Value.nilFunc Value.nilFunc).run Tryz.prog w = .ok (.bool true) w:=by
 have h:(Op.equal 121 Value.nilFunc Value.nilFunc).run Tryz.prog w = .ok true w:=Znn w 9999;simp only [binOp]
 simp [h]
@[go_sem ↓] theorem fn_some (w:World) (f:Fn) (a b:Array Value):(binOp .eql 121 (.func f a b) Value.nilFunc).run Tryz.prog w = .ok (.bool false) w:=by
 have h:(Op.equal 121 (.func f a b) Value.nilFunc).run Tryz.prog w = .ok false w:=Znm w 9999 f a b;simp only [binOp]
 simp [h]
def ZfX (k:KK) (z:Int):Array Value:=(k.row++[Value.int .i64 z]).toArray
def Zcw (R:Option Nat) (bc:Nat) (k:KK) (w:World) (e:Ending) (w':World):Prop :=
 Za0 bc w w'∧∃ (b:Bool) (z:Int),e = .returned (.bool b)∧Blk w' bc 97 (ZfX k z)∧(R=none∧b=false∨∃ r:Nat,R=some r∧b=true∧z=r)
def Zf5 (k:KK) (p:KP):Prop:=∀ (deep left:Nat) (high:Bool) (B bc:Nat) (w:World),deep≤32→left≤2048→Chk w B bc k left→p.In w B →
 Calls Tryz.prog 38 #[.pointer (some ⟨bc,0,none⟩),.agg p.cells,.int .i64 ((deep:Int)+1),.bool high] w (Zcw (Zx k.vars k.chans.length deep high left p) bc k w)
theorem Chk.upd {w w':World} {B bc:Nat} {k:KK} {n z:Int} (h:Chk w B bc k n) (hu:Za0 bc w w') (hb:Blk w' bc 97 (ZfX k z)):Chk w' B bc k z:=⟨hb,h.inn.below ((hu.below h.lt).mono h.le),h.le,h.ok⟩
structure ZcQ (w W:World) (B bc:Nat) (k:KK) (n:Int) (ps:Array Value):Prop where
 upd:Za0 bc w W
 pb:Blk W w.heap.size 31 ps
 chk:Chk W B bc k n
 lt:bc < w.heap.size
section
variable {w W W1:World} {B bc:Nat} {k:KK} {n z:Int} {ps:Array Value}
theorem ZcQ.call (h:ZcQ w W B bc k n ps) (hb:Below W.heap.size W W1):ZcQ w W1 B bc k n ps:=⟨h.upd.trans (Za0.of_below hb),h.pb.call hb,h.chk.call hb,h.lt⟩
theorem ZcQ.step (h:ZcQ w W B bc k n ps) (hu:Za0 bc W W1) (hb:Blk W1 bc 97 (ZfX k z)):ZcQ w W1 B bc k z ps :=
 ⟨h.upd.trans hu,h.pb.upd hu (by have:=h.lt; omega),h.chk.upd hu hb,h.lt⟩
theorem ZcQ.low (h:ZcQ w W B bc k n ps) {p:KP} (hi:p.In w B):p.In W B:=hi.below ((h.upd.below h.lt).mono h.chk.le)
theorem ZcQ.low1 (h:ZcQ w W B bc k n ps) {p:KP} (hi:p.One w B):p.One W B:=hi.below ((h.upd.below h.lt).mono h.chk.le)
end
theorem Zbd {w:World} {B bc:Nat} {k:KK} {n:Int} {ps:Array Value} (hc:Chk w B bc k n):ZcQ w ((w.alloc (.cells ps 31)).setCell ⟨bc,11,none⟩ (.int .i64 (n - 1))) B bc k (n - 1) ps:=by
 have K0:Below w.heap.size w (w.alloc (.cells ps 31)):=(Below.refl _ _).alloc (Nat.le_refl _) _;have b0:=hc.blk.call K0;have b1:=b0.set_ 11 (.int .i64 (n - 1));have hu:Za0 bc w ((w.alloc (.cells ps 31)).setCell ⟨bc,11,none⟩ (.int .i64 (n - 1))):=(Za0.of_below K0).trans (Za0.set _ 11 _);have e:((k.row++[Value.int .i64 n]).toArray).setIfInBounds 11 (.int .i64 (n - 1))=ZfX k (n - 1):=rfl;rw [e] at b1;exact ⟨hu,(Blk.new w _ _).far (by have:=hc.lt; simp; omega) _,hc.upd hu b1,hc.lt⟩
theorem ZoK (k:KK) (p:KP) (deep left:Nat) (high:Bool) (B bc:Nat) (w:World) (hd:deep≤32) (hl:left≤2048) (hc:Chk w B bc k left) (hi:p.In w B) (h:left=0) :
  Calls Tryz.prog 38 #[.pointer (some ⟨bc,0,none⟩),.agg p.cells,.int .i64 ((deep:Int)+1),.bool high] w (Zcw none bc k w):=by
 have S0:=Zbd (ps:=p.cells) hc;have HCK:=Lh (fun w1=>Zde bc p.kind w1);have hone:=hi.one
 have b0:=(hc.blk.call ((Below.refl w.heap.size w).alloc (Nat.le_refl _) (.cells p.cells 31)))
 have y1:(left:Int) - 1 < 0:=by omega
 clear h
 obtain ⟨V,hV⟩:∃ V,Zca bc p.kind=V:=⟨_,rfl⟩
 rw [hV] at HCK;clear hV;generalize hW0:w.alloc (.cells p.cells 31)=W0 at *;generalize hW1:W0.setCell ⟨bc,11,none⟩ (.int .i64 ((left:Int) - 1))=W1 at *;have S:Hid (ZcQ w W1 B bc k ((left:Int) - 1) p.cells):=Lh S0
 have z11:W0.cell? ⟨bc,11,none⟩=some (.int .i64 left):=by have:=b0.cell 11; simpa [KK.row,KP.cells] using this
 have f11:=b0.frozen 11;simp only [KP.cells] at hW0 S ⊢;have x1:=S.out.pb;have x2:=S.out.chk.c11
 have bW0:Blk W0 w.heap.size 31 #[.int .u8 p.kind,.int .i64 p.c,.int .i64 p.v,.int .u8 p.item,.slice p.At p.tos.length p.ct,.slice p.Ae p.e.length p.ce,.slice p.Ag p.g.length p.cg,.slice p.Al p.l.length p.cl]:=by rw [← hW0]; exact Blk.new _ _ _
 obtain ⟨e0,e1,e2,e3,e4,e5,e6,e7⟩:=x1.c8;simp at e0 e1 e2 e3 e4 e5 e6 e7;clear x1 S0 b0 hc hi bW0 hone;go_enter Tryz.func38,Tryz.ntmps38
 go_wp2_with (first
  | (go_at_call 58; (with_reducible refine (HCK.out _).mono ?_); rintro e1 w1 ⟨rfl,hb1⟩
     replace S:=Lh (S.out.call hb1);have x1:=S.out.pb;have x2:=S.out.chk.c11;obtain ⟨e0,e1,e2,e3,e4,e5,e6,e7⟩:=x1.c8;simp at e0 e1 e2 e3 e4 e5 e6 e7
     clear x1 hb1))
 go_ret;exact ⟨S.out.upd,false,_,rfl,S.out.chk.blk,.inl ⟨rfl,rfl⟩⟩
theorem Zng (k:KK) (p:KP) (deep left:Nat) (high:Bool) (B bc:Nat) (w:World) (hd:deep≤32) (hl:left≤2048) (hc:Chk w B bc k left) (hi:p.In w B) (h0:left≠0) (h:deep=32) :
  Calls Tryz.prog 38 #[.pointer (some ⟨bc,0,none⟩),.agg p.cells,.int .i64 ((deep:Int)+1),.bool high] w (Zcw none bc k w):=by
 have S0:=Zbd (ps:=p.cells) hc;have HCK:=Lh (fun w1=>Zde bc p.kind w1);have hone:=hi.one
 have b0:=(hc.blk.call ((Below.refl w.heap.size w).alloc (Nat.le_refl _) (.cells p.cells 31)))
 have y1:¬ (left:Int) - 1 < 0:=by omega
 have y2:(32:Int) < (deep:Int)+1:=by omega
 clear h h0
 obtain ⟨V,hV⟩:∃ V,Zca bc p.kind=V:=⟨_,rfl⟩
 rw [hV] at HCK;clear hV;generalize hW0:w.alloc (.cells p.cells 31)=W0 at *;generalize hW1:W0.setCell ⟨bc,11,none⟩ (.int .i64 ((left:Int) - 1))=W1 at *;have S:Hid (ZcQ w W1 B bc k ((left:Int) - 1) p.cells):=Lh S0
 have z11:W0.cell? ⟨bc,11,none⟩=some (.int .i64 left):=by have:=b0.cell 11; simpa [KK.row,KP.cells] using this
 have f11:=b0.frozen 11;simp only [KP.cells] at hW0 S ⊢;have x1:=S.out.pb;have x2:=S.out.chk.c11
 have bW0:Blk W0 w.heap.size 31 #[.int .u8 p.kind,.int .i64 p.c,.int .i64 p.v,.int .u8 p.item,.slice p.At p.tos.length p.ct,.slice p.Ae p.e.length p.ce,.slice p.Ag p.g.length p.cg,.slice p.Al p.l.length p.cl]:=by rw [← hW0]; exact Blk.new _ _ _
 obtain ⟨e0,e1,e2,e3,e4,e5,e6,e7⟩:=x1.c8;simp at e0 e1 e2 e3 e4 e5 e6 e7;clear x1 S0 b0 hc hi bW0 hone;go_enter Tryz.func38,Tryz.ntmps38
 go_wp2_with (first
  | (go_at_call 58; (with_reducible refine (HCK.out _).mono ?_); rintro e1 w1 ⟨rfl,hb1⟩
     replace S:=Lh (S.out.call hb1);have x1:=S.out.pb;have x2:=S.out.chk.c11;obtain ⟨e0,e1,e2,e3,e4,e5,e6,e7⟩:=x1.c8;simp at e0 e1 e2 e3 e4 e5 e6 e7
     clear x1 hb1))
 go_ret;exact ⟨S.out.upd,false,_,rfl,S.out.chk.blk,.inl ⟨rfl,rfl⟩⟩
theorem Zls (k:KK) (p:KP) (deep left:Nat) (high:Bool) (B bc:Nat) (w:World) (hd:deep≤32) (hl:left≤2048) (hc:Chk w B bc k left) (hi:p.In w B) (h0:left≠0) (h:deep < 32) (hV:Zca bc p.kind=Value.nilFunc) :
  Calls Tryz.prog 38 #[.pointer (some ⟨bc,0,none⟩),.agg p.cells,.int .i64 ((deep:Int)+1),.bool high] w (Zcw none bc k w):=by
 have S0:=Zbd (ps:=p.cells) hc;have HCK:=Lh (fun w1=>Zde bc p.kind w1);have hone:=hi.one
 have b0:=(hc.blk.call ((Below.refl w.heap.size w).alloc (Nat.le_refl _) (.cells p.cells 31)))
 have y1:¬ (left:Int) - 1 < 0:=by omega
 have y2:¬ (32:Int) < (deep:Int)+1:=by omega
 rw [hV] at HCK;clear h h0 hV;generalize hW0:w.alloc (.cells p.cells 31)=W0 at *;generalize hW1:W0.setCell ⟨bc,11,none⟩ (.int .i64 ((left:Int) - 1))=W1 at *;have S:Hid (ZcQ w W1 B bc k ((left:Int) - 1) p.cells):=Lh S0
 have z11:W0.cell? ⟨bc,11,none⟩=some (.int .i64 left):=by have:=b0.cell 11; simpa [KK.row,KP.cells] using this
 have f11:=b0.frozen 11;simp only [KP.cells] at hW0 S ⊢;have x1:=S.out.pb;have x2:=S.out.chk.c11
 have bW0:Blk W0 w.heap.size 31 #[.int .u8 p.kind,.int .i64 p.c,.int .i64 p.v,.int .u8 p.item,.slice p.At p.tos.length p.ct,.slice p.Ae p.e.length p.ce,.slice p.Ag p.g.length p.cg,.slice p.Al p.l.length p.cl]:=by rw [← hW0]; exact Blk.new _ _ _
 obtain ⟨e0,e1,e2,e3,e4,e5,e6,e7⟩:=x1.c8;simp at e0 e1 e2 e3 e4 e5 e6 e7;clear x1 S0 b0 hc hi bW0 hone;go_enter Tryz.func38,Tryz.ntmps38
 go_wp2_with (first
  | (go_at_call 58; (with_reducible refine (HCK.out _).mono ?_); rintro e1 w1 ⟨rfl,hb1⟩
     replace S:=Lh (S.out.call hb1);have x1:=S.out.pb;have x2:=S.out.chk.c11;obtain ⟨e0,e1,e2,e3,e4,e5,e6,e7⟩:=x1.c8;simp at e0 e1 e2 e3 e4 e5 e6 e7
     clear x1 hb1))
 go_ret;exact ⟨S.out.upd,false,_,rfl,S.out.chk.blk,.inl ⟨rfl,rfl⟩⟩
theorem Znf (k:KK) (p:KP) (deep left:Nat) (high:Bool) (B bc:Nat) (w:World) (hd:deep≤32) (hl:left≤2048) (hc:Chk w B bc k left) (hi:p.In w B) (h0:left≠0) (h:deep < 32) (hV:Zca bc p.kind≠Value.nilFunc) (hck:ZW k.vars k.chans.length p=false) :
  Calls Tryz.prog 38 #[.pointer (some ⟨bc,0,none⟩),.agg p.cells,.int .i64 ((deep:Int)+1),.bool high] w (Zcw none bc k w):=by
 have S0:=Zbd (ps:=p.cells) hc;have HCK:=Lh (fun w1=>Zde bc p.kind w1);have hone:=hi.one
 have b0:=(hc.blk.call ((Below.refl w.heap.size w).alloc (Nat.le_refl _) (.cells p.cells 31)))
 have y1:¬ (left:Int) - 1 < 0:=by omega
 have y2:¬ (32:Int) < (deep:Int)+1:=by omega
 obtain ⟨F,hF,hEN,hFC⟩:=Zdi k ((left:Int) - 1) p B bc hV;rw [hF] at HCK;have HIO:=Lh hone;have HF:=Lh hFC;rw [hck] at HF;simp only [KP.cells] at HF;clear h h0 hV hF hFC hck;generalize hW0:w.alloc (.cells p.cells 31)=W0 at *;generalize hW1:W0.setCell ⟨bc,11,none⟩ (.int .i64 ((left:Int) - 1))=W1 at *;have S:Hid (ZcQ w W1 B bc k ((left:Int) - 1) p.cells):=Lh S0
 have z11:W0.cell? ⟨bc,11,none⟩=some (.int .i64 left):=by have:=b0.cell 11; simpa [KK.row,KP.cells] using this
 have f11:=b0.frozen 11;simp only [KP.cells] at hW0 S ⊢;have x1:=S.out.pb;have x2:=S.out.chk.c11
 have bW0:Blk W0 w.heap.size 31 #[.int .u8 p.kind,.int .i64 p.c,.int .i64 p.v,.int .u8 p.item,.slice p.At p.tos.length p.ct,.slice p.Ae p.e.length p.ce,.slice p.Ag p.g.length p.cg,.slice p.Al p.l.length p.cl]:=by rw [← hW0]; exact Blk.new _ _ _
 obtain ⟨e0,e1,e2,e3,e4,e5,e6,e7⟩:=x1.c8;simp at e0 e1 e2 e3 e4 e5 e6 e7;clear x1 S0 b0 hc hi bW0 hone;go_enter Tryz.func38,Tryz.ntmps38
 go_wp2_with (first
  | (go_at_call 58; (with_reducible refine (HCK.out _).mono ?_); rintro e1 w1 ⟨rfl,hb1⟩
     replace S:=Lh (S.out.call hb1);have x1:=S.out.pb;have x2:=S.out.chk.c11;obtain ⟨e0,e1,e2,e3,e4,e5,e6,e7⟩:=x1.c8;simp at e0 e1 e2 e3 e4 e5 e6 e7
     clear x1 hb1)
  | ((with_reducible refine (HF.out _ S.out.chk (S.out.low1 HIO.out)).mono ?_); rintro e1 w1 ⟨rfl,hb1⟩
     replace S:=Lh (S.out.call hb1);have x1:=S.out.pb;have x2:=S.out.chk.c11;obtain ⟨e0,e1,e2,e3,e4,e5,e6,e7⟩:=x1.c8;simp at e0 e1 e2 e3 e4 e5 e6 e7
     clear x1 hb1))
 go_ret;exact ⟨S.out.upd,false,_,rfl,S.out.chk.blk,.inl ⟨rfl,rfl⟩⟩
theorem ZjW (k:KK) (p:KP) (deep left:Nat) (high:Bool) (B bc:Nat) (w:World) (hd:deep≤32) (hl:left≤2048) (hc:Chk w B bc k left) (hi:p.In w B) (h0:left≠0) (h:deep < 32) (hV:Zca bc p.kind≠Value.nilFunc) (hck:ZW k.vars k.chans.length p=true) (hh:high=true) (h11:p.kind=11) :
  Calls Tryz.prog 38 #[.pointer (some ⟨bc,0,none⟩),.agg p.cells,.int .i64 ((deep:Int)+1),.bool high] w (Zcw none bc k w):=by
 have S0:=Zbd (ps:=p.cells) hc;have HCK:=Lh (fun w1=>Zde bc p.kind w1);have hone:=hi.one
 have b0:=(hc.blk.call ((Below.refl w.heap.size w).alloc (Nat.le_refl _) (.cells p.cells 31)))
 have y1:¬ (left:Int) - 1 < 0:=by omega
 have y2:¬ (32:Int) < (deep:Int)+1:=by omega
 obtain ⟨F,hF,hEN,hFC⟩:=Zdi k ((left:Int) - 1) p B bc hV;rw [hF] at HCK;have HIO:=Lh hone;have HF:=Lh hFC;rw [hck] at HF;simp only [KP.cells] at HF;clear h h0 hV hF hFC hck;subst hh
 have y11:((p.kind:Int) == 11)=true:=by simp [h11]
 clear h11;generalize hW0:w.alloc (.cells p.cells 31)=W0 at *;generalize hW1:W0.setCell ⟨bc,11,none⟩ (.int .i64 ((left:Int) - 1))=W1 at *;have S:Hid (ZcQ w W1 B bc k ((left:Int) - 1) p.cells):=Lh S0
 have z11:W0.cell? ⟨bc,11,none⟩=some (.int .i64 left):=by have:=b0.cell 11; simpa [KK.row,KP.cells] using this
 have f11:=b0.frozen 11;simp only [KP.cells] at hW0 S ⊢;have x1:=S.out.pb;have x2:=S.out.chk.c11
 have bW0:Blk W0 w.heap.size 31 #[.int .u8 p.kind,.int .i64 p.c,.int .i64 p.v,.int .u8 p.item,.slice p.At p.tos.length p.ct,.slice p.Ae p.e.length p.ce,.slice p.Ag p.g.length p.cg,.slice p.Al p.l.length p.cl]:=by rw [← hW0]; exact Blk.new _ _ _
 obtain ⟨e0,e1,e2,e3,e4,e5,e6,e7⟩:=x1.c8;simp at e0 e1 e2 e3 e4 e5 e6 e7;clear x1 S0 b0 hc hi bW0 hone;go_enter Tryz.func38,Tryz.ntmps38
 go_wp2_with (first
  | (go_at_call 58; (with_reducible refine (HCK.out _).mono ?_); rintro e1 w1 ⟨rfl,hb1⟩
     replace S:=Lh (S.out.call hb1);have x1:=S.out.pb;have x2:=S.out.chk.c11;obtain ⟨e0,e1,e2,e3,e4,e5,e6,e7⟩:=x1.c8;simp at e0 e1 e2 e3 e4 e5 e6 e7
     clear x1 hb1)
  | ((with_reducible refine (HF.out _ S.out.chk (S.out.low1 HIO.out)).mono ?_); rintro e1 w1 ⟨rfl,hb1⟩
     replace S:=Lh (S.out.call hb1);have x1:=S.out.pb;have x2:=S.out.chk.c11;obtain ⟨e0,e1,e2,e3,e4,e5,e6,e7⟩:=x1.c8;simp at e0 e1 e2 e3 e4 e5 e6 e7
     clear x1 hb1))
 go_ret;exact ⟨S.out.upd,false,_,rfl,S.out.chk.blk,.inl ⟨rfl,rfl⟩⟩
end
theorem ZoH (k:KK) (p:KP) (hil:∀ x∈p.l,Zf5 k x) (hig:∀ g∈p.g,∀ x∈g.body,Zf5 k x) (deep left:Nat) (B bc:Nat) (w:World) (hd:deep < 32) (hl:left≤2048) (hl0:left≠0) (hc:Chk w B bc k left) (hi:p.In w B) (hV:Zca bc p.kind≠Value.nilFunc) (hck:ZW k.vars k.chans.length p=true) (h11:p.kind≠11) :
  Calls Tryz.prog 38 #[.pointer (some ⟨bc,0,none⟩),.agg p.cells,.int .i64 ((deep:Int)+1),.bool true] w (Zcw (ZaD k.vars k.chans.length (deep+1) true (Zn k.vars k.chans.length (deep+1) true false (left - 1) p.l) p.g) bc k w):=by
 have HGB:Hid (∀ g∈p.g,∃ q,g.body=[q]):=Lh fun g hg=>by
  obtain ⟨c,hgb⟩:=Z3 hck g hg;exact Zbb hgb
 have S0:=Zbd (ps:=p.cells) hc;have HCK:=Lh (fun w1=>Zde bc p.kind w1);have hone:=hi.one;have HIN:=Lh hi;have HLT:=Lh hc.lt
 have b0:=(hc.blk.call ((Below.refl w.heap.size w).alloc (Nat.le_refl _) (.cells p.cells 31)))
 have y11:((p.kind:Int) == 11)=false:=by simp; omega
 have y1:¬ (left:Int) - 1 < 0:=by omega
 have y2:¬ (32:Int) < (deep:Int)+1:=by omega
 obtain ⟨F,hF,hEN,hFC⟩:=Zdi k ((left:Int) - 1) p B bc hV;rw [hF] at HCK;have HIO:=Lh hone;have HF:=Lh hFC;rw [hck] at HF;clear hV hF hFC hck;have hlen:=hone.1.2.2.2.2.2;have hlen2:=hone.1.2.2.2.2.1;unfold ZB at hlen hlen2
 obtain ⟨m,hm⟩:∃ m,p.l.length=m:=⟨_,rfl⟩
 obtain ⟨mg,hmg⟩:∃ m,p.g.length=m:=⟨_,rfl⟩
 have HM:=Lh hm;have HMG:=Lh hmg;rw [hm] at hlen;rw [hmg] at hlen2;have HIL:=Lh hil;have HIG:=Lh hig;have HN0:=Lh hl0
 have hn1:(left:Int) - 1=((left - 1:Nat):Int):=by omega
 have HN1:=Lh hn1;generalize hW0:w.alloc (.cells p.cells 31)=W0 at *;generalize hW1:W0.setCell ⟨bc,11,none⟩ (.int .i64 ((left:Int) - 1))=W1 at *;have S:Hid (ZcQ w W1 B bc k ((left:Int) - 1) p.cells):=Lh S0
 have z11:W0.cell? ⟨bc,11,none⟩=some (.int .i64 left):=by have:=b0.cell 11; simpa [KK.row,KP.cells] using this
 have f11:=b0.frozen 11
 have bW0:Blk W0 w.heap.size 31 p.cells:=by rw [← hW0]; exact Blk.new _ _ _
 simp only [KP.cells,hm,hmg] at hW0 S HF bW0 ⊢;have x1:=S.out.pb;have x2:=S.out.chk.c11;obtain ⟨e0,e1,e2,e3,e4,e5,e6,e7⟩:=x1.c8;simp at e0 e1 e2 e3 e4 e5 e6 e7;clear x1 S0 b0 hc hi bW0 hone hm hmg hil hig hl0 hn1 h11;go_enter Tryz.func38,Tryz.ntmps38
 go_upto_block 0 with (first
  | (go_at_call 58; (with_reducible refine (HCK.out _).mono ?_); rintro e1 w1 ⟨rfl,hb1⟩
     replace S:=Lh (S.out.call hb1);have x1:=S.out.pb;have x2:=S.out.chk.c11;obtain ⟨e0,e1,e2,e3,e4,e5,e6,e7⟩:=x1.c8;simp at e0 e1 e2 e3 e4 e5 e6 e7
     clear x1 hb1)
  | ((with_reducible refine (HF.out _ S.out.chk (S.out.low1 HIO.out)).mono ?_); rintro e1 w1 ⟨rfl,hb1⟩
     replace S:=Lh (S.out.call hb1);have x1:=S.out.pb;have x2:=S.out.chk.c11;obtain ⟨e0,e1,e2,e3,e4,e5,e6,e7⟩:=x1.c8;simp at e0 e1 e2 e3 e4 e5 e6 e7
     clear x1 hb1))
 clear HCK HF HIO hEN;have S1:Hid (ZcQ w w1 B bc k ((left - 1:Nat):Int) #[.int .u8 p.kind,.int .i64 p.c,.int .i64 p.v,.int .u8 p.item,.slice p.At p.tos.length p.ct,.slice p.Ae p.e.length p.ce,.slice p.Ag mg p.cg,.slice p.Al m p.cl]):=Lh (by rw [← HN1.out]; exact S.out);clear S
 go_cut [55] (fun s55 wx=>∃ r:Nat,Hid (ZcQ w wx B bc k (r:Int) #[.int .u8 p.kind,.int .i64 p.c,.int .i64 p.v,.int .u8 p.item,.slice p.At p.tos.length p.ct,.slice p.Ae p.e.length p.ce,.slice p.Ag mg p.cg,.slice p.Al m p.cl])∧Hid (Zn k.vars k.chans.length (deep+1) true false (left - 1) p.l=some r)∧Hid (r≤2048))
 case first =>
  go_wp2_with fail
  go_loopw [55] (fun i wr=>∃ (j r:Nat),j≤m∧i = .int .i64 j∧Hid (ZcQ w wr B bc k (r:Int) #[.int .u8 p.kind,.int .i64 p.c,.int .i64 p.v,.int .u8 p.item,.slice p.At p.tos.length p.ct,.slice p.Ae p.e.length p.ce,.slice p.Ag mg p.cg,.slice p.Al m p.cl])∧Hid (Zn k.vars k.chans.length (deep+1) true false (left - 1) (p.l.take j)=some r)∧Hid (r≤2048)) (fun i _=>m - (intOf i).toNat)
  case atStart=>exact ⟨0,left - 1,Nat.zero_le _,rfl,S1,Lh (by rw [List.take_zero,Zn]),Lh (by omega)⟩
  case round =>
   clear S1 e0 e1 e2 e3 e4 e5 e6 e7 x2;obtain ⟨j,r,hj,rfl,S,HST,HRR⟩:=hrel;have x1:=S.out.pb;have hpw:=x1.lt;obtain ⟨e0,e1,e2,e3,e4,e5,e6,e7⟩:=x1.c8;simp at e0 e1 e2 e3 e4 e5 e6 e7;clear x1
   by_cases hlt:j < m
   ·have hltI:(j:Int) < m:=by omega
    have hin:=S.out.low HIN.out;have hBw:=S.out.chk.leB;have hst:=HST.out;obtain ⟨b,off,x,hA,hb,hx,hmx,c0,c1,c2,c3,c4,c5,c6,c7⟩:=Za4 hin.one.2.2.2.2 rfl (k:=j) (by rw [HM.out]; exact hlt);have hbw:b < wr.heap.size:=Nat.lt_of_lt_of_le hb hBw;rw [hA] at e7;have S2:=Lh (S.out.call ((Below.refl wr.heap.size wr).alloc (Nat.le_refl _) (.cells x.cells 31)));have bx:=Blk.new wr 31 x.cells;simp only [KP.cells] at S2 bx;have HB:=Lh bx;clear bx
    go_upto_region 8 with fail
    generalize wr.alloc _=w2 at *;have x1:=S2.out.pb;have bx:=HB.out;clear c0 c1 c2 c3 c4 c5 c6 c7 e0 e1 e2 e3 e4 e5 e6 e7 HB S;obtain ⟨e0,e1,e2,e3,e4,e5,e6,e7⟩:=x1.c8;simp at e0 e1 e2 e3 e4 e5 e6 e7;obtain ⟨d0,d1,d2,d3,d4,d5,d6,d7⟩:=bx.c8;simp at d0 d1 d2 d3 d4 d5 d6 d7;clear x1 bx
    have HC:Hid (∀ w1:World,ZcQ w w1 B bc k (r:Int) #[.int .u8 p.kind,.int .i64 p.c,.int .i64 p.v,.int .u8 p.item,.slice p.At p.tos.length p.ct,.slice p.Ae p.e.length p.ce,.slice p.Ag mg p.cg,.slice p.Al m p.cl]→Calls Tryz.prog 38 #[.pointer (some ⟨bc,0,none⟩),.agg x.cells,.int .i64 ((deep:Int)+1+1),.bool true] w1 (Zcw (Zx k.vars k.chans.length (deep+1) true r x) bc k w1)):=Lh fun w1 h=>by
     have h2:=HIL.out x hmx (deep+1) r true B bc w1 (by omega) HRR.out h.chk ((h.low HIN.out).part hmx)
     have h3:((deep+1:Nat):Int)=(deep:Int)+1:=by omega
     rw [h3] at h2;exact h2
    have hsn:=ZaI (vs:=k.vars) (nc:=k.chans.length) (deep:=deep+1) (high:=true) (first:=false) (left:=left - 1) hx hst;have hfl:=ZcF (vs:=k.vars) (nc:=k.chans.length) (deep:=deep+1) (high:=true) (first:=false) (left:=left - 1) hx hst;have hb2:(true || (false && decide (j=0)))=true:=rfl;rw [hb2] at hsn hfl;have HSN:Hid (Zn k.vars k.chans.length (deep+1) true false (left - 1) (p.l.take (j+1))=Zx k.vars k.chans.length (deep+1) true r x):=Lh hsn;have HFL:Hid (Zx k.vars k.chans.length (deep+1) true r x=none→Zn k.vars k.chans.length (deep+1) true false (left - 1) p.l=none):=Lh hfl;have HRL:Hid (∀ r2,Zx k.vars k.chans.length (deep+1) true r x=some r2→r2≤r):=Lh fun r2 h=>ZaB x _ _ _ _ h;generalize Zx k.vars k.chans.length (deep+1) true r x=so2 at *;simp only [KP.cells] at HC;clear hx hmx hA hst hsn hfl hin
    go_wp2_with (first
     | (go_at_call 38; (with_reducible refine (HC.out _ S2.out).mono ?_); rintro e1 w3 ⟨hu,b3,z3,rfl,hb3,hor⟩
        have S3:=Lh (S2.out.step hu hb3);clear hu hb3 S2
        rcases hor with ⟨hn,rfl⟩ | ⟨r2,hn,rfl,rfl⟩))
    ·go_ret;exact ⟨S3.out.upd,false,_,rfl,S3.out.chk.blk,.inl ⟨by rw [HFL.out hn]; rfl,rfl⟩⟩
    ·go_roundw
     case rel=>exact ⟨j+1,r2,by omega,by go_num,S3,Lh (HSN.out.trans hn),Lh (Nat.le_trans (HRL.out r2 hn) HRR.out)⟩
     case measure=>simp [intOf]; omega
   ·have hltI:¬ (j:Int) < m:=by omega
    obtain rfl:m=j:=by omega
    have htk:p.l.take m=p.l:=List.take_of_length_le (by rw [HM.out]; omega);have hst:=HST.out;rw [htk] at hst;have HX1:=Lh hst;clear htk hst
    go_wp2_with fail
    go_meet;exact ⟨r,S,HX1,HRR⟩
 case rest =>
  obtain ⟨r,S,HX1,HRR⟩:=hcut;have x1:=S.out.pb;obtain ⟨e0,e1,e2,e3,e4,e5,e6,e7⟩:=x1.c8;simp at e0 e1 e2 e3 e4 e5 e6 e7;clear x1 HIL S1 HN1 HN0 HLT
  go_wp2_with fail
  go_loopw [80] (fun i wr=>∃ (j2 r2:Nat),j2≤mg∧i = .int .i64 j2∧Hid (ZcQ w wr B bc k (r2:Int) #[.int .u8 p.kind,.int .i64 p.c,.int .i64 p.v,.int .u8 p.item,.slice p.At p.tos.length p.ct,.slice p.Ae p.e.length p.ce,.slice p.Ag mg p.cg,.slice p.Al m p.cl])∧Hid (ZaD k.vars k.chans.length (deep+1) true (some r) (p.g.take j2)=some r2)∧Hid (r2≤2048)) (fun i _=>mg - (intOf i).toNat)
  case atStart=>exact ⟨0,r,Nat.zero_le _,rfl,S,Lh Zbx,HRR⟩
  case round =>
   clear S e0 e1 e2 e3 e4 e5 e6 e7;obtain ⟨j2,r2,hj2,rfl,S,HST,HR2⟩:=hrel;have x1:=S.out.pb;have hpw:=x1.lt;obtain ⟨e0,e1,e2,e3,e4,e5,e6,e7⟩:=x1.c8;simp at e0 e1 e2 e3 e4 e5 e6 e7;clear x1
   by_cases hlt:j2 < mg
   ·have hltI:(j2:Int) < mg:=by omega
    have hin:=S.out.low HIN.out;have hBw:=S.out.chk.leB;have hst:=HST.out;obtain ⟨b,off,g,hA,hb,hx,hmx,hG⟩:=Zb7 hin.one.2.2.2.1.1 rfl (k:=j2) (by rw [HMG.out]; exact hlt);have hbw:b < wr.heap.size:=Nat.lt_of_lt_of_le hb hBw;have HG:=Lh hG;clear hG;rw [hA] at e6;obtain ⟨qq,hq⟩:=HGB.out g hmx;have HSN:=Lh ((Zbh hx hst).trans (Zcq hq));have HMX:=Lh hmx;have HQ:=Lh hq;have S2:=Lh (S.out.call ((Below.refl wr.heap.size wr).alloc (Nat.le_refl _) (.cells g.flat 109)));have bx:=Blk.new wr 109 g.flat;have HB:=Lh bx;clear bx hx hmx hst hin hq
    go_upto_region 14 with (first
     | (refine Zaf rfl _ rfl (b:=b) (o:=off+j2 * 18) rfl HG.out ?_)
     | (refine Z9 rfl _ _ rfl (w:=wr) (g:=g) rfl rfl ?_))
    generalize wr.alloc _=w2 at *;have bx:=HB.out;clear e0 e1 e2 e3 e4 e5 e6 e7 HB S HG;have d17:=bx.cell 17
    simp [KG.flat] at d17
    clear bx;obtain ⟨b2,off2,x,hA2,hb2,hx2,hmx2,c0,c1,c2,c3,c4,c5,c6,c7⟩:=Za4 ((S2.out.low HIN.out).one.2.2.2.1.2 g HMX.out).2.2.2.2 rfl (k:=0) (by rw [HQ.out]; simp);have hq:=HQ.out
    have hxq:x=qq:=by rw [hq] at hx2; simpa using hx2.symm
    subst hxq;have hbw2:b2 < w2.heap.size:=Nat.lt_of_lt_of_le hb2 S2.out.chk.leB;rw [hq] at d17;rw [hA2] at d17;rw [Nat.zero_mul,Nat.add_zero] at c0 c1 c2 c3 c4 c5 c6 c7;simp only [List.length_singleton] at d17
    have HC:Hid (∀ w1:World,ZcQ w w1 B bc k (r2:Int) #[.int .u8 p.kind,.int .i64 p.c,.int .i64 p.v,.int .u8 p.item,.slice p.At p.tos.length p.ct,.slice p.Ae p.e.length p.ce,.slice p.Ag mg p.cg,.slice p.Al m p.cl]→Calls Tryz.prog 38 #[.pointer (some ⟨bc,0,none⟩),.agg x.cells,.int .i64 ((deep:Int)+1+1),.bool true] w1 (Zcw (Zx k.vars k.chans.length (deep+1) true r2 x) bc k w1)):=Lh fun w1 h=>by
     have h2:=HIG.out g HMX.out x hmx2 (deep+1) r2 true B bc w1 (by omega) HR2.out h.chk ((h.low HIN.out).guard HMX.out hmx2)
     have h3:((deep+1:Nat):Int)=(deep:Int)+1:=by omega
     rw [h3] at h2;exact h2
    have HRL:Hid (∀ r3,Zx k.vars k.chans.length (deep+1) true r2 x=some r3→r3≤r2):=Lh fun r3 h=>ZaB x _ _ _ _ h;generalize Zx k.vars k.chans.length (deep+1) true r2 x=so2 at *;simp only [KP.cells] at HC;have HA:=Lh hA;clear hq hx2 hmx2 hA hA2 HQ HMX
    go_wp2_with (first
     | (go_at_call 38; (with_reducible refine (HC.out _ S2.out).mono ?_); rintro e1 w3 ⟨hu,b3,z3,rfl,hb3,hor⟩
        have S3:=Lh (S2.out.step hu hb3);clear hu hb3 S2
        rcases hor with ⟨hn,rfl⟩ | ⟨r3,hn,rfl,rfl⟩))
    ·go_ret;exact ⟨S3.out.upd,false,_,rfl,S3.out.chk.blk,.inl ⟨by rw [HX1.out]; exact Zag (HSN.out.trans hn),rfl⟩⟩
    ·simp only [← HA.out]
     go_roundw
     case rel=>exact ⟨j2+1,r3,by omega,by go_num,S3,Lh (HSN.out.trans hn),Lh (Nat.le_trans (HRL.out r3 hn) HR2.out)⟩
     case measure=>simp [intOf]; omega
   ·have hltI:¬ (j2:Int) < mg:=by omega
    obtain rfl:mg=j2:=by omega
    have htk:p.g.take mg=p.g:=List.take_of_length_le (by rw [HMG.out]; omega);have hst:=HST.out;rw [htk] at hst;have HXX:=Lh hst;clear htk hst
    go_wp2
    go_ret;exact ⟨S.out.upd,true,_,rfl,S.out.chk.blk,.inr ⟨r2,by rw [HX1.out]; exact HXX.out,rfl,rfl⟩⟩
end Go.Proofs.YtjndhfcfcedheaaGreatDoor
