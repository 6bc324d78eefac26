/- Texts that belong together: S5 S6 WD VH VI. -/
import Derived.Test.YtjndhfcfcedheaaGreatDoorHK25
import Derived.Test.YtjndhfcfcedheaaGreatDoorHK14
import Derived.Test.YtjndhfcfcedheaaGreatDoorHK22
import Derived.Test.YtjndhfcfcedheaaGreatDoorHK20
set_option linter.unusedVariables false
set_option linter.unusedSimpArgs false
set_option maxRecDepth 100000
set_option maxHeartbeats 16000000
namespace Go.Proofs.YtjndhfcfcedheaaGreatDoor
open Go.RowKit
theorem Zop (e a b:KE) (hl:e.l=[a,b]) (hall:e.all (fun x=>Zq x=true)) (B:Nat) (w:World) (hin:e.In w B) (hB:B≤w.heap.size) :
  Calls Tryz.prog 99 #[.agg e.cells] w (Zu (.bool (decide (e.oper≠20∧e.oper≠21∧ZQ a=3∧ZQ b=3))) w):=by
 have hf:=(KE.all_iff.1 hall).1;have hk:=Ze0 hf;have hpa:=(KE.all_iff.1 hall).2
 obtain ⟨W0,hW0⟩:∃ W,w.alloc (.cells e.cells 65)=W:=⟨_,rfl⟩
 have K0:Below w.heap.size w W0:=by rw [← hW0]; exact (Below.refl _ _).alloc (Nat.le_refl _) _
 have b0:Blk W0 w.heap.size 65 e.cells:=by rw [← hW0]; exact Blk.new _ _ _
 have HK0:=Lh K0;have HB0:=Lh b0;have hkes:=hin.parts
 have HC:∀ x∈e.l,Hid (∀ W,Below w.heap.size w W→Calls Tryz.prog 109 #[.agg x.cells] W (Zu (.int .i64 (ZQ x)) W)):=fun x hx=>Lh fun W hb =>
  rRegs x (hpa x hx) B W ((hin.part hx).below (hb.mono hB)) (Nat.le_trans hB hb.size)
 have h1:e.kind=5:=by rw [hl] at hk; simp at hk; exact hk
 simp only [KE.cells] at b0 hW0 HB0 ⊢;rw [hl] at b0 hW0 HB0 hkes;rw [hl];have HA1:=HC a (by rw [hl]; simp);have HA2:=HC b (by rw [hl]; simp);simp only [List.length_cons,List.length_nil,Nat.zero_add] at b0 hW0 HB0 ⊢;obtain ⟨q,off,hA,hq,hcell⟩:=Zkr hkes;have hqw:q < w.heap.size:=Nat.lt_of_lt_of_le hq hB;obtain ⟨⟨x0,x1,x2,x3,x4,x5⟩,-⟩:=hcell W0 (K0.mono hB);have HCL:Hid (∀ W,Below w.heap.size w W→_):=Lh fun W hb=>hcell W (hb.mono hB);simp only [KE.cells] at HA1 HA2;rw [hA] at b0 hW0 HB0 ⊢;obtain ⟨c0,c1,c2,c3,c4,c5⟩:=b0.c6;simp at c0 c1 c2 c3 c4 c5;have hlt:=b0.lt
 have hq0:q < W0.heap.size:=by omega
 obtain ⟨RA,hRA⟩:∃ K:Int,(ZQ a:Int)=K:=⟨_,rfl⟩
 obtain ⟨RB,hRB⟩:∃ K:Int,(ZQ b:Int)=K:=⟨_,rfl⟩
 obtain ⟨K,hK⟩:∃ K:Int,(e.kind:Int)=K:=⟨_,rfl⟩
 obtain ⟨O,hO⟩:∃ K:Int,(e.oper:Int)=K:=⟨_,rfl⟩
 have hZ:decide (e.oper≠20∧e.oper≠21∧ZQ a=3∧ZQ b=3)=decide (O≠20∧O≠21∧RA=3∧RB=3):=by
  congr 1
  rw [eq_iff_iff]
  omega
 rw [hZ];rw [hK,hO] at hW0 HB0 ⊢;rw [hK] at c0;rw [hO] at c1;rw [hRA] at HA1;rw [hRB] at HA2
 obtain rfl:K=5:=by omega
 clear b0 K0 hk hf hkes HC hl hin hcell hA hRA hRB hK hO h1 hZ hpa hall
 by_cases h20:O=20 <;> by_cases h21:O=21 <;> by_cases hRA3:RA=3 <;> by_cases hRB3:RB=3
 all_goals try (exfalso; omega)
 all_goals
  have n20:(O != 20) = !decide (O=20):=by rw [Bool.eq_iff_iff]; simp
  have n21:(O != 21) = !decide (O=21):=by rw [Bool.eq_iff_iff]; simp
  have bRA:(RA == 3)=decide (RA=3):=by rw [Bool.eq_iff_iff]; simp
  have bRB:(RB == 3)=decide (RB=3):=by rw [Bool.eq_iff_iff]; simp
  simp only [h20,h21,hRA3,hRB3,decide_true,decide_false,Bool.not_true,Bool.not_false] at n20 n21 bRA bRB;simp only [h20,h21,hRA3,hRB3,ne_eq,not_true_eq_false,not_false_eq_true,and_true,and_false,false_and,true_and,decide_true,decide_false,and_self]
  try subst h20
  try subst h21
  try subst hRA3
  try subst hRB3
  go_enter Tryz.func99,Tryz.ntmps99
  go_wp2_with first
   | (go_at_call 109; (with_reducible refine (HA1.out _ HK0.out).mono ?_); rintro e1 w1 ⟨rfl,hb1⟩
      have b1:=HB0.out.call hb1;obtain ⟨d0,d1,d2,d3,d4,d5⟩:=b1.c6;simp at d0 d1 d2 d3 d4 d5;have K1:=Lh (HK0.out.trans (hb1.mono HK0.out.size));obtain ⟨-,y0,y1,y2,y3,y4,y5⟩:=HCL.out _ K1.out;have hq1:q < w1.heap.size:=Nat.lt_of_lt_of_le hqw K1.out.size
      clear b1 hb1)
   | (go_at_call 109; (with_reducible refine (HA2.out _ K1.out).mono ?_); rintro e2 w2 ⟨rfl,hb2⟩)
  go_ret
  first
   | exact ⟨rfl,K1.out.trans (hb2.mono K1.out.size)⟩
   | exact ⟨rfl,K1.out⟩
   | exact ⟨rfl,HK0.out⟩
theorem Zh6 {e a b:KE} (hl:e.l=[a,b]):(ZT e:Int)=if e.oper≠20∧e.oper≠21∧ZQ a=3∧ZQ b=3 then max (ZT b:Int) ((ZT a:Int)+1) else max (ZT a:Int) (ZT b:Int):=by
 rw [(ZeD hl).2.1]
 split <;> omega
theorem Zfn (e:KE) (h:e.all (fun x=>Zq x=true)):ZT e≤ZbL e:=by
 induction e using KE.ind with
 | h e ih =>
   have hpa:=(KE.all_iff.1 h).2
   match hl:e.l with
   | []=>rw [(ZeF hl).2.1]; omega
   | [a] =>
     have:=ih a (by rw [hl]; simp) (hpa a (by rw [hl]; simp));have:=ZiV hl;rw [(ZeE hl).2.1]
     omega
   | a :: b :: r =>
     have:=ih a (by rw [hl]; simp) (hpa a (by rw [hl]; simp));have:=ih b (by rw [hl]; simp) (hpa b (by rw [hl]; simp));have:=ZiU hl;rw [(ZeD hl).2.1]
     split <;> omega
theorem ZpB (e:KE):e.all (fun x=>Zq x=true)→ZbL e≤256→∀ (B:Nat) (w:World),e.In w B→B≤w.heap.size →
  Calls Tryz.prog 87 #[.agg e.cells] w (Zu (.int .i64 (ZT e)) w):=by
 induction e using KE.ind with
 | h e ih =>
   intro hall hnod B w hin hB;have hf:=(KE.all_iff.1 hall).1;have hlen:=Zbv hf;have hpa:=(KE.all_iff.1 hall).2
   obtain ⟨W0,hW0⟩:∃ W,w.alloc (.cells e.cells 65)=W:=⟨_,rfl⟩
   have K0:Below w.heap.size w W0:=by rw [← hW0]; exact (Below.refl _ _).alloc (Nat.le_refl _) _
   have b0:Blk W0 w.heap.size 65 e.cells:=by rw [← hW0]; exact Blk.new _ _ _
   have HK0:=Lh K0;have HB0:=Lh b0;have hkes:=hin.parts
   have HC:∀ x∈e.l,ZbL x≤256→Hid (∀ W,Below w.heap.size w W→Calls Tryz.prog 87 #[.agg x.cells] W (Zu (.int .i64 (ZT x)) W)):=fun x hx hn=>Lh fun W hb =>
    ih x hx (hpa x hx) hn B W ((hin.part hx).below (hb.mono hB)) (Nat.le_trans hB hb.size)
   simp only [KE.cells] at b0 hW0 HB0 ⊢
   match hl:e.l with
   | [] =>
     have hans:=(ZeF hl).2.1;rw [hans];rw [hl] at b0 hW0 HB0;simp only [List.length_nil] at b0 hW0 HB0 ⊢;obtain ⟨c0,c1,c2,c3,c4,c5⟩:=b0.c6;simp at c0 c1 c2 c3 c4 c5;have hlt:=b0.lt;clear b0 K0 hf hkes HC hl hans hin hlen ih hall hpa hnod;go_enter Tryz.func87,Tryz.ntmps87
     go_wp2
     go_ret;exact ⟨rfl,HK0.out⟩
   | [a] =>
     have hans:=(ZeE hl).2.1;have hnd:=ZiV hl;rw [hans];rw [hl] at b0 hW0 HB0 hkes;have HA1:=HC a (by rw [hl]; simp) (by omega);simp only [List.length_cons,List.length_nil,Nat.zero_add] at b0 hW0 HB0 ⊢;obtain ⟨q,off,hA,hq,hcell⟩:=ZnR hkes;obtain ⟨x0,x1,x2,x3,x4,x5⟩:=hcell W0 (K0.mono hB);simp only [KE.cells] at HA1;rw [hA] at b0 hW0 HB0 ⊢;obtain ⟨c0,c1,c2,c3,c4,c5⟩:=b0.c6;simp at c0 c1 c2 c3 c4 c5;have hlt:=b0.lt
     have hq0:q < W0.heap.size:=by omega
     clear b0 K0 hf hkes HC hl hans hin hlen ih hall hpa hnod hcell hA hnd;go_enter Tryz.func87,Tryz.ntmps87
     go_wp2_with first
      | (go_at_call 87; (with_reducible refine (HA1.out _ HK0.out).mono ?_); rintro e1 w1 ⟨rfl,hb1⟩)
     go_ret;exact ⟨rfl,HK0.out.trans (hb1.mono HK0.out.size)⟩
   | [a,b] =>
     have hans:=Zh6 hl;have hnd:=ZiU hl;have hta:=Zfn a (hpa a (by rw [hl]; simp));have htb:=Zfn b (hpa b (by rw [hl]; simp));have HSP:=Lh (Zop e a b hl hall B W0 (hin.below (K0.mono hB)) (Nat.le_trans hB K0.size));rw [hl] at b0 hW0 HB0 hkes;have HA1:=HC a (by rw [hl]; simp) (by omega);have HA2:=HC b (by rw [hl]; simp) (by omega);simp only [KE.cells] at HA1 HA2 HSP;rw [hl] at HSP;simp only [List.length_cons,List.length_nil,Nat.zero_add] at b0 hW0 HB0 HSP ⊢;obtain ⟨q,off,hA,hq,hcell⟩:=Zkr hkes;have hqw:q < w.heap.size:=Nat.lt_of_lt_of_le hq hB;have HCL:Hid (∀ W,Below w.heap.size w W→_):=Lh fun W hb=>hcell W (hb.mono hB);rw [hA] at b0 hW0 HB0 HSP ⊢;obtain ⟨c0,c1,c2,c3,c4,c5⟩:=b0.c6;simp at c0 c1 c2 c3 c4 c5;have hlt:=b0.lt
     obtain ⟨RA,hRA⟩:∃ K:Int,(ZT a:Int)=K:=⟨_,rfl⟩
     obtain ⟨RB,hRB⟩:∃ K:Int,(ZT b:Int)=K:=⟨_,rfl⟩
     have hRA0:0≤RA∧RA≤256:=by omega
     have hRB0:0≤RB∧RB≤256:=by omega
     rw [hans];rw [hRA,hRB];rw [hRA] at HA1;rw [hRB] at HA2
     have hdec:(if e.oper≠20∧e.oper≠21∧ZQ a=3∧ZQ b=3 then max RB (RA+1) else max RA RB)=if decide (e.oper≠20∧e.oper≠21∧ZQ a=3∧ZQ b=3)=true then max RB (RA+1) else max RA RB:=by simp
     rw [hdec];generalize decide (e.oper≠20∧e.oper≠21∧ZQ a=3∧ZQ b=3)=SP at *;clear b0 K0 hf hkes HC hl hans hin hlen ih hall hpa hnod hcell hA hnd hRA hRB hta htb hdec
     cases SP
     all_goals
      simp only [if_true,if_false,Bool.false_eq_true];go_enter Tryz.func87,Tryz.ntmps87
      go_wp2_with first
       | (go_at_call 99; (with_reducible refine HSP.out.mono ?_); rintro e1 w1 ⟨rfl,hb1⟩
          have b1:=HB0.out.call hb1;obtain ⟨d0,d1,d2,d3,d4,d5⟩:=b1.c6;simp at d0 d1 d2 d3 d4 d5;have hbw:=b1.lt;have K1:=Lh (HK0.out.trans (hb1.mono HK0.out.size));obtain ⟨⟨x0,x1,x2,x3,x4,x5⟩,y0,y1,y2,y3,y4,y5⟩:=HCL.out _ K1.out;have hq1:q < w1.heap.size:=Nat.lt_of_lt_of_le hqw K1.out.size;have B1:=Lh b1
          clear b1 hb1)
      obtain ⟨ι,F,i0',h0',hFb,hcl⟩:=ZC w1
      haveI:Nonempty ι:=⟨i0'⟩
      have D5:∀ i,(F i).cell? ⟨w.heap.size,5,none⟩=_:=fun i=>((ZbT (hFb i)).1 _ _ hbw).trans d5;have X0:∀ i,(F i).cell? ⟨q,off,none⟩=_:=fun i=>((ZbT (hFb i)).1 _ _ hq1).trans x0;have X1:∀ i,(F i).cell? ⟨q,off+1,none⟩=_:=fun i=>((ZbT (hFb i)).1 _ _ hq1).trans x1;have X2:∀ i,(F i).cell? ⟨q,off+2,none⟩=_:=fun i=>((ZbT (hFb i)).1 _ _ hq1).trans x2;have X3:∀ i,(F i).cell? ⟨q,off+3,none⟩=_:=fun i=>((ZbT (hFb i)).1 _ _ hq1).trans x3;have X4:∀ i,(F i).cell? ⟨q,off+4,none⟩=_:=fun i=>((ZbT (hFb i)).1 _ _ hq1).trans x4;have X5:∀ i,(F i).cell? ⟨q,off+5,none⟩=_:=fun i=>((ZbT (hFb i)).1 _ _ hq1).trans x5;have Y0:∀ i,(F i).cell? ⟨q,off+6,none⟩=_:=fun i=>((ZbT (hFb i)).1 _ _ hq1).trans y0;have Y1:∀ i,(F i).cell? ⟨q,off+6+1,none⟩=_:=fun i=>((ZbT (hFb i)).1 _ _ hq1).trans y1;have Y2:∀ i,(F i).cell? ⟨q,off+6+2,none⟩=_:=fun i=>((ZbT (hFb i)).1 _ _ hq1).trans y2;have Y3:∀ i,(F i).cell? ⟨q,off+6+3,none⟩=_:=fun i=>((ZbT (hFb i)).1 _ _ hq1).trans y3;have Y4:∀ i,(F i).cell? ⟨q,off+6+4,none⟩=_:=fun i=>((ZbT (hFb i)).1 _ _ hq1).trans y4;have Y5:∀ i,(F i).cell? ⟨q,off+6+5,none⟩=_:=fun i=>((ZbT (hFb i)).1 _ _ hq1).trans y5;have HKF:=Lh (fun i=>K1.out.trans ((hFb i).mono K1.out.size));clear hFb;refine Zb F i0' h0' (by kernel_rfl) (by kernel_rfl) ?_
      repeat (go_big_quiet_step (first
       | (go_at_call 87; (with_reducible refine (HA1.out _ (HKF.out _)).mono ?_); rintro e3 w3 ⟨rfl,hb3⟩; exact ⟨rfl,hcl _ _ hb3⟩)
       | (go_at_call 87; (with_reducible refine (HA2.out _ (HKF.out _)).mono ?_); rintro e3 w3 ⟨rfl,hb3⟩; exact ⟨rfl,hcl _ _ hb3⟩)))
      refine wpQuiet_nil ?_;intro i
      go_wp2
      go_ret;exact ⟨rfl,HKF.out i⟩
   | a :: b :: x :: r=>exfalso; rw [hl] at hlen; simp at hlen
theorem ZmD (e:KE) (B:Nat) (w:World) (hin:e.In w B) (hB:B≤w.heap.size):Calls Tryz.prog 65 #[.agg e.cells] w (Zu (.int .i64 (Zf e)) w):=by
 obtain ⟨W0,hW0⟩:∃ W,w.alloc (.cells e.cells 65)=W:=⟨_,rfl⟩
 have K0:Below w.heap.size w W0:=by rw [← hW0]; exact (Below.refl _ _).alloc (Nat.le_refl _) _
 have b0:Blk W0 w.heap.size 65 e.cells:=by rw [← hW0]; exact Blk.new _ _ _
 have HK0:=Lh K0;have HB0:=Lh b0;have HM:=Lh (rMay e B W0 (hin.below (K0.mono hB)) (Nat.le_trans hB K0.size))
 have HSF:Hid (Zaa e=true→∀ W,Below w.heap.size w W→Calls Tryz.prog 87 #[.agg e.cells] W (Zu (.int .i64 (Zf e)) W)):=Lh fun hv W hb=>by
  have:Zf e=ZT e:=by unfold Zf; rw [hv]; rfl
  rw [this];exact ZpB e (Zdq hv) (Zh1 hv) B W (hin.below (hb.mono hB)) (Nat.le_trans hB hb.size)
 have H0:Hid (Zaa e=false→Zf e=0):=Lh fun hv=>by unfold Zf; rw [hv]; rfl
 simp only [KE.cells] at b0 hW0 HB0 HM HSF ⊢;obtain ⟨c0,c1,c2,c3,c4,c5⟩:=b0.c6;simp at c0 c1 c2 c3 c4 c5;have hlt:=b0.lt;clear b0 K0 hin;generalize Zaa e=V at *;generalize Zf e=S at *
 cases V with
 | false =>
   obtain rfl:S=0:=H0.out rfl;clear HSF H0;go_enter Tryz.func65,Tryz.ntmps65
   go_wp2_with first
    | (go_at_call 86; (with_reducible refine HM.out.mono ?_); rintro e1 w1 ⟨rfl,hb1⟩
       have K1:=Lh (HK0.out.trans (hb1.mono HK0.out.size)))
   go_ret;exact ⟨rfl,K1.out⟩
 | true =>
   have HS2:=Lh (HSF.out (by first | trivial | rfl));clear HSF H0;go_enter Tryz.func65,Tryz.ntmps65
   go_wp2_with first
    | (go_at_call 86; (with_reducible refine HM.out.mono ?_); rintro e1 w1 ⟨rfl,hb1⟩
       have K1:=Lh (HK0.out.trans (hb1.mono HK0.out.size));have b1:=HB0.out.call hb1;obtain ⟨d0,d1,d2,d3,d4,d5⟩:=b1.c6;simp at d0 d1 d2 d3 d4 d5
       clear b1)
    | (go_at_call 87; (with_reducible refine (HS2.out _ K1.out).mono ?_); rintro e2 w2 ⟨rfl,hb2⟩)
   go_ret;exact ⟨rfl,K1.out.trans (hb2.mono K1.out.size)⟩
theorem Zgp {us:List (KP×Nat)} {f:Nat} (h:∀ u∈us,Zal Zf u.1≤12289):ZJ Zf us f≤12289:=by
 unfold ZJ
 have key:∀ (l:List (KP×Nat)) (m:Nat),(∀ u∈l,Zal Zf u.1≤12289)→m≤12289→l.foldl (fun m u=>if u.2=f then max m (Zal Zf u.1) else m) m≤12289:=by
  intro l
  induction l with
  | nil=>intro m _ hm; exact hm
  | cons u l ih =>
    intro m hl hm;rw [List.foldl_cons];refine ih _ (fun x hx=>hl x (by simp [hx])) ?_;have:=hl u (by simp)
    split <;> omega
 exact key us 0 h (by omega)
theorem ZdM {p:KP} (h:(ZL p).length≤48) (j:Nat):1+Zc2 Zf ((ZL p).take j)≤12289:=by
 have h1:=Zh8 ((ZL p).take j);rw [List.length_take] at h1
 omega
theorem ZmC {S0 bw:Nat} {s:PlR} {W:World} (hp:Za8 S0 bw s W) (B:Nat) (hin:∀ u∈s.pl.uses,u.1.In W B) (hB:B≤W.heap.size) (hok:∀ u∈s.pl.uses,Ze2 u.1∧(ZL u.1).length≤48) (hl:s.pl.uses.length≤1000000) (f:Nat) (hf:f≤1000000) :
  Calls Tryz.prog 53 #[.pointer (some ⟨bw,0,none⟩),.int .i64 f] W (Zu (.int .i64 (ZJ Zf s.pl.uses f)) W):=by
 have HP:=Lh hp;have HOK:=Lh hok
 have HIN:Hid (∀ u∈s.pl.uses,∀ W',Below W.heap.size W W'→u.1.In W' B∧B≤W'.heap.size):=Lh fun u hu W' h=>⟨(hin u hu).below (h.mono hB),Nat.le_trans hB h.size⟩
 have HWL:Hid (∀ i,ZJ Zf (s.pl.uses.take i) f≤12289):=Lh fun i=>Zgp fun u hu=>by
  have h1:=hok u (List.mem_of_mem_take hu);rw [← Zex h1.1,← List.take_length (l:=ZL u.1)];exact ZdM h1.2 _
 obtain ⟨Au,cu,hvu⟩:=Zv hp.us
 obtain ⟨n,hn⟩:∃ n,s.pl.uses.length=n:=⟨_,rfl⟩
 have HN:=Lh hn
 have hrd:Zo W W.heap.size 9 Au n (Zh5 s.pl.uses):=by
  have:=hp.us;rw [hvu,hn] at this;exact Zo.of_own this
 have HRD:=Lh hrd;have b0:=hp.blk;rw [hvu,hn] at b0;have HB0:=Lh b0;rw [hn] at hl;clear hp hok hin hvu hn hrd b0;go_enter Tryz.func53,Tryz.ntmps53
 go_wp2_with fail
 go_loopw [5,6] (fun v i wr=>∃ j:Nat,j≤n∧v = .int .i64 (ZJ Zf (s.pl.uses.take j) f:Nat)∧i = .int .i64 j∧Hid (Below W.heap.size W wr)) (fun _ i _=>n - (intOf i).toNat)
 case atStart=>exact ⟨0,Nat.zero_le _,rfl,rfl,Lh (Below.refl _ _)⟩
 case round =>
  obtain ⟨i,hi,rfl,rfl,HW⟩:=hrel;have b0:=HB0.out.call HW.out;have hlb:=b0.lt;obtain ⟨e0,e1,e2⟩:=b0.c3;simp at e0 e1 e2;clear b0
  obtain ⟨mo,hmo⟩:∃ mo,ZJ Zf (s.pl.uses.take i) f=mo:=⟨_,rfl⟩
  have HMO:=Lh hmo;have hmob:=HWL.out i;rw [hmo] at hmob ⊢;clear hmo
  by_cases hlt:i < n
  ·have hltI:(i:Int) < n:=by omega
   obtain ⟨b,off,u,hA,hb,hx,hmx,d0,d1,d2,d3,d4,d5,d6,d7,d8⟩:=ZiL (us:=s.pl.uses) (by rw [HN.out]; exact HRD.out.below HW.out) (k:=i) (by rw [HN.out]; exact hlt);have hbw:b < wr.heap.size:=Nat.lt_of_lt_of_le hb HW.out.size;subst hA;have htk:=Zjy hx f;rw [HMO.out] at htk;have HX:=Lh hx;have HMX:=Lh hmx
   by_cases hu:u.2=f
   ·have yu:(((u.2:Nat):Int) != (f:Int))=false:=by simp [hu]
    rw [if_pos hu] at htk;have HTK:=Lh htk;have hsm:=(HOK.out u hmx).2;have hwa:=Zex (HOK.out u hmx).1;have HWA:=Lh hwa;have HSM:=Lh hsm;have hiu:=HIN.out u hmx wr HW.out;have HE:Hid (Calls Tryz.prog 51 #[.agg u.1.cells] wr (Zpc u.1 wr)):=Lh (ZnP u.1 B wr hiu.1 hiu.2 (by omega))
    have HT:Hid (∀ (e:KE),e∈ZL u.1→∀ W',Below wr.heap.size wr W'→Calls Tryz.prog 65 #[.agg e.cells] W' (Zu (.int .i64 (Zf e)) W')):=Lh fun e he W' h=>by
     have h2:=HIN.out u hmx W' (HW.out.trans (h.mono HW.out.size));exact ZmD e B W' (ZhT h2.1 e he) h2.2
    simp only [KP.cells] at HE;clear hx hmx htk hwa hiu hu
    go_upto_region 7 with (go_at_call 51; (with_reducible refine HE.out.mono ?_); rintro e9 w3 ⟨v3,rfl,HO3,HK3⟩)
    obtain ⟨A3,c3,rfl⟩:=Zv HO3.out;have HR3:Hid (Zo w3 w3.heap.size 6 A3 (ZL u.1).length (ZgE (ZL u.1))):=Lh (Zo.of_own HO3.out)
    obtain ⟨m,hm⟩:∃ m,(ZL u.1).length=m:=⟨_,rfl⟩
    have HM:=Lh hm;rw [hm] at hsm HR3 ⊢;clear hm HO3 e0 e1 e2 d0 d1 d2 d3 d4 d5 d6 d7 d8 hlb hbw hb
    go_wp2_with fail
    go_loopw [8,9] (fun v i wq=>∃ j:Nat,j≤m∧v = .int .i64 (1+Zc2 Zf ((ZL u.1).take j):Nat)∧i = .int .i64 j∧Hid (Below w3.heap.size w3 wq)) (fun _ i _=>m - (intOf i).toNat)
    case atStart=>exact ⟨0,Nat.zero_le _,rfl,rfl,Lh (Below.refl _ _)⟩
    case round =>
     obtain ⟨j,hj,rfl,rfl,HQ⟩:=hrel
     obtain ⟨nw,hnw⟩:∃ q,1+Zc2 Zf ((ZL u.1).take j)=q:=⟨_,rfl⟩
     have HNW:=Lh hnw;have hnwb:=ZdM HSM.out j;rw [hnw] at hnwb ⊢;clear hnw
     by_cases hlt2:j < m
     ·have hltI2:(j:Int) < m:=by omega
      obtain ⟨b,off,x,hA,hb,hx,hmx,q0,q1,q2,q3,q4,q5⟩:=Zlm (HR3.out.below HQ.out) HM.out (k:=j) hlt2;have hbw:b < wr.heap.size:=Nat.lt_of_lt_of_le hb HQ.out.size;subst hA;have htx:=HT.out x hmx wr (HK3.out.trans (HQ.out.mono HK3.out.size));have hsn:=Zkv hx;have htb:=Zfm x
      have hn2:1+Zc2 Zf ((ZL u.1).take (j+1))=nw+1+Zf x:=by have:=HNW.out; omega
      generalize Zf x=tx at *;have HN2:=Lh hn2;have HTX:=Lh htx;simp only [KE.cells] at HTX;clear htx hsn hn2 hx hmx
      go_wp2_with (first
       | (go_at_call 65; (with_reducible refine HTX.out.mono ?_); rintro e9 w4 ⟨rfl,k4⟩
          have HK4:=Lh k4
          clear k4))
      go_roundw
      case rel=>exact ⟨j+1,by omega,by rw [HN2.out]; go_num,by go_num,Lh (HQ.out.trans (HK4.out.mono HQ.out.size))⟩
      case measure=>simp [intOf]; omega
     ·have hltI2:¬ (j:Int) < m:=by omega
      obtain rfl:m=j:=by omega
      have hw:nw=Zal Zf u.1:=by rw [← HWA.out,← HNW.out,List.take_of_length_le (by rw [HM.out]; omega)]
      have HT2:Hid (ZJ Zf (s.pl.uses.take (i+1)) f=max mo nw):=Lh (by rw [hw]; exact HTK.out);clear hw
      go_wp2_with fail
      go_roundw
      case rel=>exact ⟨i+1,by omega,by rw [HT2.out]; go_num,by go_num,Lh (HW.out.trans ((HK3.out.trans (HQ.out.mono HK3.out.size)).mono HW.out.size))⟩
      case measure=>simp [intOf]; omega
   ·have yu:(((u.2:Nat):Int) != (f:Int))=true:=by simp; omega
    rw [if_neg hu] at htk;have HTK:=Lh htk;clear hx hmx htk hu
    go_wp2_with fail
    go_roundw
    case rel=>exact ⟨i+1,by omega,by rw [HTK.out],by go_num,HW⟩
    case measure=>simp [intOf]; omega
  ·have hltI:¬ (i:Int) < n:=by omega
   obtain rfl:n=i:=by omega
   have HME:Hid (ZJ Zf s.pl.uses f=mo):=Lh (by rw [← HMO.out,List.take_of_length_le (by rw [HN.out]; omega)])
   go_wp2_with fail
   go_ret;exact ⟨by rw [HME.out]; rfl,HW.out⟩
theorem Za5 {P:Program} {c:Code} {K:Act→World→Prop} {Q:Exit→Act→World→Prop} {a:Act} {w:World} (h:c.wp P (Exit.then K (fun _ _ _=>False)) a w):c.wp P (Exit.then K Q) a w :=
 wp_mono h fun e a w hq=>by cases e <;> first | exact hq | exact hq.elim
theorem Ze3 {P:Program} {F:Fence} {n:Nat} {c:Code} {Q:Exit→Act→World→Prop} {a:Act} {w:World} (h:c.wpIn F n P (Exit.then (fun a w=>Q .normal a w) (fun _ _ _=>False)) a w):c.wpIn F n P Q a w :=
 wpIn_mono h fun e a w hq=>by cases e <;> first | exact hq | exact hq.elim
def Zh0:Array Value:=#[.slice none 0 0,.slice none 0 0,.slice none 0 0,.slice none 0 0,.slice none 0 0]
structure NoS (w0:World) (gs:List (Nat×Nat)) (ob:Option Nat) (W:World):Prop where
 bel:Below w0.heap.size w0 W
 rows:∀ x∈gs,w0.heap.size≤x.1∧Blk W x.1 3 (ZV (List.replicate x.2 (-1)))
 nd:(gs.map (·.1)).Nodup
 box:∀ b,ob=some b→w0.heap.size≤b∧Blk W b 38 Zh0
theorem NoS.start (w0:World):NoS w0 [] none w0.drew:=⟨(Below.refl _ _).drew,fun x h=>(by cases h),by simp,fun b h=>(by cases h)⟩
theorem NoS.step {w0 W W':World} {gs:List (Nat×Nat)} {ob:Option Nat} {e:Ending} {n:Nat} (h:NoS w0 gs ob W) (hr:ZqC n W e W'):∃ g,e = .returned (.slice (some ⟨g,0,none⟩) n n)∧Hid (NoS w0 (gs++[(g,n)]) ob W'):=by
 obtain ⟨g,rfl,hg,K,B⟩:=hr;have hs:=h.bel.size;refine ⟨g,rfl,Lh ⟨h.bel.trans (K.out.mono hs),fun x hx=>?_,?_,fun b hb=>⟨(h.box b hb).1,(h.box b hb).2.call K.out⟩⟩⟩
 ·rcases List.mem_append.1 hx with hx | hx
  ·exact ⟨(h.rows x hx).1,(h.rows x hx).2.call K.out⟩
  ·simp at hx; subst hx; exact ⟨by show w0.heap.size≤g; omega,B.out⟩
 ·rw [List.map_append,List.map_singleton,List.nodup_append];refine ⟨h.nd,by simp,fun x hx y hy=>?_⟩;simp at hy; subst hy;obtain ⟨z,hz,rfl⟩:=List.mem_map.1 hx;have:=(h.rows z hz).2.lt
  omega
theorem NoS.made {w0 W:World} {gs:List (Nat×Nat)} (h:Hid (NoS w0 gs none W)):Hid (NoS w0 gs (some W.heap.size) (W.alloc (.cells #[.slice none 0 0,.slice none 0 0,.slice none 0 0,.slice none 0 0,.slice none 0 0] 38))) :=
 have h:=h.out
 Lh ⟨h.bel.alloc h.bel.size _,fun x hx=>⟨(h.rows x hx).1,(h.rows x hx).2.alloc _⟩,h.nd,fun b hb=>by
  injection hb with hb
  subst hb
  exact ⟨h.bel.size,Blk.new _ _ _⟩⟩
theorem NoS.sb {w0 W:World} {gs:List (Nat×Nat)} {ob:Option Nat} (h:Hid (NoS w0 gs ob W)):Zi w0 W:=(Zi.refl w0).below h.out.bel
theorem NoS.sb5 {w0 W:World} {gs:List (Nat×Nat)} {b:Nat} (h:Hid (NoS w0 gs (some b) W)) {v0 v1 v2 v3 v4:Value}:Zi w0 (((((W.setCell ⟨b,0,none⟩ v0).setCell ⟨b,1,none⟩ v1).setCell ⟨b,2,none⟩ v2).setCell ⟨b,3,none⟩ v3).setCell ⟨b,4,none⟩ v4) :=
 have hb:=(h.out.box b rfl).1
 ((((NoS.sb h).set hb _).set hb _).set hb _).set hb _ |>.set hb _
structure SpA (w0:World) (bs g1 g2 g3 g4 nv nc:Nat) (W:World):Prop where
 bel:Below w0.heap.size w0 W
 lo:w0.heap.size≤bs∧w0.heap.size≤g1∧w0.heap.size≤g2∧w0.heap.size≤g3∧w0.heap.size≤g4
 xbs:Blk W bs 38 #[.slice none 0 0,.slice (some ⟨g1,0,none⟩) nv nv,.slice (some ⟨g2,0,none⟩) nv nv,.slice (some ⟨g3,0,none⟩) nc nc,.slice (some ⟨g4,0,none⟩) nc nc]
 x1:Blk W g1 3 (ZV (List.replicate nv (-1)))
 x2:Blk W g2 3 (ZV (List.replicate nv (-1)))
 x3:Blk W g3 3 (ZV (List.replicate nc (-1)))
 x4:Blk W g4 3 (ZV (List.replicate nc (-1)))
 ne:g1≠g2∧g1≠g3∧g1≠g4∧g2≠g3∧g2≠g4∧g3≠g4
theorem NoS.fin {w0 W:World} {g1 g2 g3 g4 nv nc b:Nat} (h:Hid (NoS w0 [(g1,nv),(g2,nv),(g3,nc),(g4,nc)] (some b) W)) :
  SpA w0 b g1 g2 g3 g4 nv nc (((((W.setCell ⟨b,0,none⟩ (.slice none 0 0)).setCell ⟨b,1,none⟩ (.slice (some ⟨g1,0,none⟩) nv nv)).setCell ⟨b,2,none⟩ (.slice (some ⟨g2,0,none⟩) nv nv)).setCell ⟨b,3,none⟩ (.slice (some ⟨g3,0,none⟩) nc nc)).setCell ⟨b,4,none⟩ (.slice (some ⟨g4,0,none⟩) nc nc)):=by
 have h:=h.out;have hb:=h.box b rfl;have r1:=h.rows (g1,nv) (by simp);have r2:=h.rows (g2,nv) (by simp);have r3:=h.rows (g3,nc) (by simp);have r4:=h.rows (g4,nc) (by simp);have hnd:=h.nd;simp at hnd
 have far:∀ {g:Nat} {cs:Array Value},Blk W g 3 cs→Blk (((((W.setCell ⟨b,0,none⟩ (.slice none 0 0)).setCell ⟨b,1,none⟩ (.slice (some ⟨g1,0,none⟩) nv nv)).setCell ⟨b,2,none⟩ (.slice (some ⟨g2,0,none⟩) nv nv)).setCell ⟨b,3,none⟩ (.slice (some ⟨g3,0,none⟩) nc nc)).setCell ⟨b,4,none⟩ (.slice (some ⟨g4,0,none⟩) nc nc)) g 3 cs:=fun {g cs} hg=>by
  have hn:g≠b:=hg.ne_ hb.2 (by decide);exact Zk (Zk (Zk (Zk (Zk hg hn) hn) hn) hn) hn
 refine ⟨((((h.bel.setCell hb.1 _).setCell hb.1 _).setCell hb.1 _).setCell hb.1 _).setCell hb.1 _,⟨hb.1,r1.1,r2.1,r3.1,r4.1⟩,?_,far r1.2,far r2.2,far r3.2,far r4.2,?_⟩
 ·have:=((((hb.2.set_ 0 (.slice none 0 0)).set_ 1 (.slice (some ⟨g1,0,none⟩) nv nv)).set_ 2 (.slice (some ⟨g2,0,none⟩) nv nv)).set_ 3 (.slice (some ⟨g3,0,none⟩) nc nc)).set_ 4 (.slice (some ⟨g4,0,none⟩) nc nc)
  simpa [Zh0] using this
 ·omega
theorem NoS.finA {w0 W:World} {g1 g2 g3 g4 nv nc:Nat} (h:Hid (NoS w0 [(g1,nv),(g2,nv),(g3,nc),(g4,nc)] none W)) :
  SpA w0 W.heap.size g1 g2 g3 g4 nv nc (W.alloc (.cells #[.slice none 0 0,.slice (some ⟨g1,0,none⟩) nv nv,.slice (some ⟨g2,0,none⟩) nv nv,.slice (some ⟨g3,0,none⟩) nc nc,.slice (some ⟨g4,0,none⟩) nc nc] 38)):=by
 have h:=h.out;have r1:=h.rows (g1,nv) (by simp);have r2:=h.rows (g2,nv) (by simp);have r3:=h.rows (g3,nc) (by simp);have r4:=h.rows (g4,nc) (by simp);have hnd:=h.nd;simp at hnd;exact ⟨h.bel.alloc h.bel.size _,⟨h.bel.size,r1.1,r2.1,r3.1,r4.1⟩,Blk.new _ _ _,r1.2.alloc _,r2.2.alloc _,r3.2.alloc _,r4.2.alloc _,by omega⟩
theorem Zc7 {w:World} {base:Nat} {e:TypeId} {n:Nat} {v:Value} {xs:List Value} (h:w.ownsRow base e 1 v n xs) {g:Nat} (hv:v.ownBlock=some g) (k:Nat) (u:Value):(w.setCell ⟨g,k,none⟩ u).ownsRow base e 1 v n (xs.set k u):=by
 refine ⟨by rw [List.length_set]; exact h.1,?_⟩
 rcases h.2 with ⟨rfl,_⟩ | ⟨g',cap,cur,rfl,hb,hg,h1,h2,h3,h4⟩
 ·cases hv
 ·injection hv with hv
  have hv:g'=g:=hv;subst hv;have hblk:Blk w g' e cur:=hg;refine .inr ⟨g',cap,cur.setIfInBounds k u,rfl,hb,hblk.set_ k u,h1,h2,by rw [Array.size_setIfInBounds]; exact h3,?_⟩;rw [Array.toList_setIfInBounds,List.take_set,h4]
theorem ZH.temp {S0 bw:Nat} {s:PlS} {W:World} (h:ZH S0 bw (ZJ Zf) s W) {q:KP} {f gt:Nat} (hf:f < s.pl.par.length) (hv:s.vt.ownBlock=some gt) :
  ZH S0 bw (ZJ Zf) (Zoc s (q,f)) (W.setCell ⟨gt,f,none⟩ (.int .i64 ((max (ZJ Zf s.pl.uses f) (Zal Zf q):Nat):Int))):=by
 have hgt:=h.tm.lt gt hv;have far:∀ k,k≠gt→(W.setCell ⟨gt,f,none⟩ (.int .i64 ((max (ZJ Zf s.pl.uses f) (Zal Zf q):Nat):Int))).heap[k]? = W.heap[k]?:=fun k hk=>Below.heap_setCell _ _ _ k hk;have hrow:∀ {base e size n:Nat} {v:Value} {xs:List Value},W.ownsRow base e size v n xs→(∀ k,v.ownBlock=some k→k≠gt)→(W.setCell ⟨gt,f,none⟩ (.int .i64 ((max (ZJ Zf s.pl.uses f) (Zal Zf q):Nat):Int))).ownsRow base e size v n xs:=fun hv hn=>Zp hv fun k hk=>far k (hn k hk);obtain ⟨ct,hct⟩:=ZN h.tm hv;refine ⟨h.lo,by simpa using h.hi,(far bw fun e=>by have:=h.lo; omega).trans h.blk,hrow h.fr fun k hk e=>Zc8 h.fr h.tm (by decide) hk (e ▸ hv),?_,⟨hrow h.gp.1 fun k hk e=>Zc8 h.gp.1 h.tm (by decide) hk (e ▸ hv),h.gp.2.1,fun i g hgi=>?_⟩,fun u hu=>?_⟩
 ·have h1:=Zc7 h.tm hv f (Zmc (max (ZJ Zf s.pl.uses f) (Zal Zf q)))
  have h2:(ZbS (tb s.pl.par.length (ZJ Zf s.pl.uses))).set f (Zmc (max (ZJ Zf s.pl.uses f) (Zal Zf q)))=ZbS (tb s.pl.par.length (ZJ Zf (s.pl.uses++[(q,f)]))):=by
   unfold ZbS;rw [← List.map_set,Zoi Zf s.pl.uses (q,f)]
  rw [h2] at h1;exact h1
 ·obtain ⟨v,q1,q2,q3⟩:=h.gp.2.2 i g hgi;exact ⟨v,q1,hrow q2 fun k hk e=>q3 k hk (e ▸ hv),q3⟩
 ·rcases List.mem_append.1 hu with hu | hu
  ·exact h.fl u hu
  ·simp at hu; subst hu; exact hf
structure MkJ (S0 bw g2 g4 nv nc:Nat) (par:List Int) (outs:List Bool) (w1:World) (us:List (KP×Nat)) (W:World):Prop where
 bel:Zl S0 (fun k=>k=bw∨k=g2∨k=g4) w1 W
 b2:Blk W g2 3 (ZV (Zhh par us (List.replicate nv (-1))))
 b4:Blk W g4 3 (ZV (Zcv outs us (List.replicate nc (-1))))
theorem MkJ.deep {S0 bw g2 g4 nv nc:Nat} {par:List Int} {outs:List Bool} {w1 a b:World} {us:List (KP×Nat)} (h:MkJ S0 bw g2 g4 nv nc par outs w1 us a) (h2:g2 < S0∧g2≠bw) (h4:g4 < S0∧g4≠bw) (k:Zl S0 (fun k=>k=bw) a b):MkJ S0 bw g2 g4 nv nc par outs w1 us b :=
 ⟨h.bel.trans (k.imp fun _ e=>.inl e),k.blk h.b2 h2.1 h2.2,k.blk h.b4 h4.1 h4.2⟩
theorem MkJ.next {S0 bw g2 g4 nb nv nc:Nat} {par:List Int} {outs:List Bool} {w1 W2 W3:World} {us:List (KP×Nat)} {q:KP} {f:Nat} (h:MkJ S0 bw g2 g4 nv nc par outs w1 us W2) (hS:S0≤W2.heap.size) (hn:S0≤nb)
  (hi:Zf7 g2 g4 nb f par outs (Zhh par us (List.replicate nv (-1))) (Zcv outs us (List.replicate nc (-1))) W2 (evP q) W3):MkJ S0 bw g2 g4 nv nc par outs w1 (us++[(q,f)]) W3:=by
 refine ⟨⟨hi.bel.os.trans h.bel.os,hi.bel.tape.trans h.bel.tape,hi.bel.output.trans h.bel.output,Nat.le_trans h.bel.size hi.bel.size,fun k hk hx=>(hi.bel.block k (by omega) fun hX=>?_).trans (h.bel.block k hk hx)⟩,?_,?_⟩
 ·rcases hX with e | e | e
  ·exact hx (.inr (.inl e))
  ·exact hx (.inr (.inr e))
  ·omega
 ·have:=hi.b2;rw [ZnZ] at this;rw [Zkm];exact this
 ·have:=hi.b4;rw [Zje] at this;rw [Zj9];exact this
end Go.Proofs.YtjndhfcfcedheaaGreatDoor
