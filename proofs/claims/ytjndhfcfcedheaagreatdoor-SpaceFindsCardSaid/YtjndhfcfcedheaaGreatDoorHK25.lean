/- Texts that belong together: S3. -/
import Derived.Test.YtjndhfcfcedheaaGreatDoorHK24
set_option linter.unusedVariables false
set_option linter.unusedSimpArgs false
set_option maxRecDepth 100000
set_option maxHeartbeats 16000000
namespace Go.Proofs.YtjndhfcfcedheaaGreatDoor
open Go.RowKit
theorem ZeC (e:KE):(ZQ e:Int)=1∨(ZQ e:Int)=2∨(ZQ e:Int)=3:=by
 have:=ZbR e
 omega
theorem rRegs (e:KE):e.all (fun x=>Zq x=true)→∀ (B:Nat) (w:World),e.In w B→B≤w.heap.size →
  Calls Tryz.prog 109 #[.agg e.cells] w (Zu (.int .i64 (ZQ e)) w):=by
 induction e using KE.ind with
 | h e ih =>
   intro hall B w hin hB;have hf:=(KE.all_iff.1 hall).1;have hk:=Ze0 hf;have hpa:=(KE.all_iff.1 hall).2
   obtain ⟨W0,hW0⟩:∃ W,w.alloc (.cells e.cells 65)=W:=⟨_,rfl⟩
   have K0:Below w.heap.size w W0:=by rw [← hW0]; exact (Below.refl _ _).alloc (Nat.le_refl _) _
   have b0:Blk W0 w.heap.size 65 e.cells:=by rw [← hW0]; exact Blk.new _ _ _
   have HK0:=Lh K0;have HB0:=Lh b0;have hkes:=hin.parts;have HF:=Lh hf
   have hk9:(e.kind:Int)≤255:=by have:=hin.one.1.1; omega
   have HC:∀ x∈e.l,Hid (∀ W,Below w.heap.size w W→Calls Tryz.prog 109 #[.agg x.cells] W (Zu (.int .i64 (ZQ x)) W)):=fun x hx=>Lh fun W hb =>
    ih x hx (hpa x hx) B W ((hin.part hx).below (hb.mono hB)) (Nat.le_trans hB hb.size)
   simp only [KE.cells] at b0 hW0 HB0 ⊢;clear ih hall hpa
   match hl:e.l with
   | [] =>
     have hans:=(ZeF hl).1;rw [hans];rw [hl] at b0 hW0 HB0;simp only [List.length_nil] at b0 hW0 HB0 ⊢;obtain ⟨c0,c1,c2,c3,c4,c5⟩:=b0.c6;simp at c0 c1 c2 c3 c4 c5;have hlt:=b0.lt;clear b0 K0 hk hf hkes HC hl hans hin;go_enter Tryz.func109,Tryz.ntmps109
     go_wp2
     go_ret;exact ⟨rfl,HK0.out⟩
   | [a] =>
     have h1:e.kind=3∨e.kind=4∨e.kind=6:=by rw [hl] at hk; simp at hk; exact hk
     have hans:=(ZeE hl).1;rw [hl] at b0 hW0 HB0 hkes;have HA1:=HC a (by rw [hl]; simp);simp only [List.length_cons,List.length_nil,Nat.zero_add] at b0 hW0 HB0 ⊢;obtain ⟨q,off,hA,hq,hcell⟩:=ZnR hkes;have hqw:q < w.heap.size:=Nat.lt_of_lt_of_le hq hB;obtain ⟨x0,x1,x2,x3,x4,x5⟩:=hcell W0 (K0.mono hB);have HCL:=Lh hcell;simp only [KE.cells] at HA1;rw [hA] at b0 hW0 HB0 ⊢;obtain ⟨c0,c1,c2,c3,c4,c5⟩:=b0.c6;simp at c0 c1 c2 c3 c4 c5;have hlt:=b0.lt
     have hq0:q < W0.heap.size:=by omega
     have hr3:=ZeC a
     obtain ⟨RA,hRA⟩:∃ K:Int,(ZQ a:Int)=K:=⟨_,rfl⟩
     have hansI:(ZQ e:Int)=if Ze7 e.kind e.oper e.tk then RA else if RA=1 then 2 else RA:=by
      rw [hans,← hRA];have:=ZbR a
      split
      ·rfl
      ·split <;> omega
     obtain ⟨K,hK⟩:∃ K:Int,(e.kind:Int)=K:=⟨_,rfl⟩
     obtain ⟨O,hO⟩:∃ K:Int,(e.oper:Int)=K:=⟨_,rfl⟩
     obtain ⟨T,hT⟩:∃ K:Int,(e.tk:Int)=K:=⟨_,rfl⟩
     obtain ⟨R,hR⟩:∃ K:Int,(ZQ e:Int)=K:=⟨_,rfl⟩
     have hZ:R=if (K=4∧(O=25∨O=26))∨(K=6∧T=1) then RA else if RA=1 then 2 else RA:=by
      rw [← hR,hansI]
      have:Ze7 e.kind e.oper e.tk=decide ((K=4∧(O=25∨O=26))∨(K=6∧T=1)):=by
       unfold Ze7;rw [Bool.eq_iff_iff]
       simp
       omega
      rw [this]
      simp
     have HANS:=Lh hZ;rw [hK,hO,hT] at hW0 HB0 ⊢;rw [hK] at c0;rw [hO] at c1;rw [hT] at c2;rw [hR];rw [hRA] at HA1 hr3
     have hk':K=3∨K=4∨K=6:=by omega
     clear b0 K0 hk hf hkes HC hl hans hin hcell hA hRA hansI hK hO hT hR HF h1 hk9 HCL hZ
     rcases hk' with rfl | rfl | rfl
     ·have:True:=trivial
      rcases hr3 with rfl | rfl | rfl
      all_goals
       have hz:=HANS.out;simp at hz;clear HANS;subst hz;go_enter Tryz.func109,Tryz.ntmps109
       go_wp2_with first
        | (go_at_call 109; (with_reducible refine (HA1.out _ HK0.out).mono ?_); rintro e1 w1 ⟨rfl,hb1⟩
           have b1:=HB0.out.call hb1;obtain ⟨d0,d1,d2,d3,d4,d5⟩:=b1.c6;simp at d0 d1 d2 d3 d4 d5
           clear b1)
       go_ret;exact ⟨rfl,HK0.out.trans (hb1.mono HK0.out.size)⟩
     ·by_cases h25:O=25
      ·subst h25
       rcases hr3 with rfl | rfl | rfl
       all_goals
        have hz:=HANS.out;simp at hz;clear HANS;subst hz;go_enter Tryz.func109,Tryz.ntmps109
        go_wp2_with first
         | (go_at_call 109; (with_reducible refine (HA1.out _ HK0.out).mono ?_); rintro e1 w1 ⟨rfl,hb1⟩
            have b1:=HB0.out.call hb1;obtain ⟨d0,d1,d2,d3,d4,d5⟩:=b1.c6;simp at d0 d1 d2 d3 d4 d5
            clear b1)
        go_ret;exact ⟨rfl,HK0.out.trans (hb1.mono HK0.out.size)⟩
      by_cases h26:O=26
      ·subst h26
       rcases hr3 with rfl | rfl | rfl
       all_goals
        have hz:=HANS.out;simp at hz;clear HANS;subst hz;go_enter Tryz.func109,Tryz.ntmps109
        go_wp2_with first
         | (go_at_call 109; (with_reducible refine (HA1.out _ HK0.out).mono ?_); rintro e1 w1 ⟨rfl,hb1⟩
            have b1:=HB0.out.call hb1;obtain ⟨d0,d1,d2,d3,d4,d5⟩:=b1.c6;simp at d0 d1 d2 d3 d4 d5
            clear b1)
        go_ret;exact ⟨rfl,HK0.out.trans (hb1.mono HK0.out.size)⟩
      have b25:(O == 25)=false:=by simpa using h25
      have b26:(O == 26)=false:=by simpa using h26
      simp only [h25,h26,or_self,and_false,false_or] at HANS
      rcases hr3 with rfl | rfl | rfl
      all_goals
       have hz:=HANS.out;simp at hz;clear HANS;subst hz;go_enter Tryz.func109,Tryz.ntmps109
       go_wp2_with first
        | (go_at_call 109; (with_reducible refine (HA1.out _ HK0.out).mono ?_); rintro e1 w1 ⟨rfl,hb1⟩
           have b1:=HB0.out.call hb1;obtain ⟨d0,d1,d2,d3,d4,d5⟩:=b1.c6;simp at d0 d1 d2 d3 d4 d5
           clear b1)
       go_ret;exact ⟨rfl,HK0.out.trans (hb1.mono HK0.out.size)⟩
     ·by_cases hT1:T=1
      ·subst hT1
       rcases hr3 with rfl | rfl | rfl
       all_goals
        have hz:=HANS.out;simp at hz;clear HANS;subst hz;go_enter Tryz.func109,Tryz.ntmps109
        go_wp2_with first
         | (go_at_call 109; (with_reducible refine (HA1.out _ HK0.out).mono ?_); rintro e1 w1 ⟨rfl,hb1⟩
            have b1:=HB0.out.call hb1;obtain ⟨d0,d1,d2,d3,d4,d5⟩:=b1.c6;simp at d0 d1 d2 d3 d4 d5
            clear b1)
        go_ret;exact ⟨rfl,HK0.out.trans (hb1.mono HK0.out.size)⟩
      have bT:(T == 1)=false:=by simpa using hT1
      simp only [hT1,and_false,or_false] at HANS
      rcases hr3 with rfl | rfl | rfl
      all_goals
       have hz:=HANS.out;simp at hz;clear HANS;subst hz;go_enter Tryz.func109,Tryz.ntmps109
       go_wp2_with first
        | (go_at_call 109; (with_reducible refine (HA1.out _ HK0.out).mono ?_); rintro e1 w1 ⟨rfl,hb1⟩
           have b1:=HB0.out.call hb1;obtain ⟨d0,d1,d2,d3,d4,d5⟩:=b1.c6;simp at d0 d1 d2 d3 d4 d5
           clear b1)
       go_ret;exact ⟨rfl,HK0.out.trans (hb1.mono HK0.out.size)⟩
   | [a,b] =>
     have h1:e.kind=5:=by rw [hl] at hk; simp at hk; exact hk
     have hans:=(ZeD hl).1;rw [hl] at b0 hW0 HB0 hkes;have HA1:=HC a (by rw [hl]; simp);have HA2:=HC b (by rw [hl]; simp);simp only [List.length_cons,List.length_nil,Nat.zero_add] at b0 hW0 HB0 ⊢;obtain ⟨q,off,hA,hq,hcell⟩:=Zkr hkes;have hqw:q < w.heap.size:=Nat.lt_of_lt_of_le hq hB;obtain ⟨⟨x0,x1,x2,x3,x4,x5⟩,-⟩:=hcell W0 (K0.mono hB);have HCL:Hid (∀ W,Below w.heap.size w W→_):=Lh fun W hb=>hcell W (hb.mono hB);simp only [KE.cells] at HA1 HA2;rw [hA] at b0 hW0 HB0 ⊢;obtain ⟨c0,c1,c2,c3,c4,c5⟩:=b0.c6;simp at c0 c1 c2 c3 c4 c5;have hlt:=b0.lt
     have hq0:q < W0.heap.size:=by omega
     have hr3:=ZeC a;have hr4:=ZeC b
     obtain ⟨RA,hRA⟩:∃ K:Int,(ZQ a:Int)=K:=⟨_,rfl⟩
     obtain ⟨RB,hRB⟩:∃ K:Int,(ZQ b:Int)=K:=⟨_,rfl⟩
     obtain ⟨K,hK⟩:∃ K:Int,(e.kind:Int)=K:=⟨_,rfl⟩
     obtain ⟨O,hO⟩:∃ K:Int,(e.oper:Int)=K:=⟨_,rfl⟩
     obtain ⟨R,hR⟩:∃ K:Int,(ZQ e:Int)=K:=⟨_,rfl⟩
     have hZ:R=if O≠20∧O≠21∧RA=RB then (if RA=3 then 3 else RA+1) else (if RA < RB then RB else RA):=by
      rw [← hR,hans];have:=ZbR a;have:=ZbR b
      split <;> split <;> first | omega | (split <;> omega)
     have HANS:=Lh hZ;rw [hK,hO] at hW0 HB0 ⊢;rw [hK] at c0;rw [hO] at c1;rw [hR];rw [hRA] at HA1 hr3;rw [hRB] at HA2 hr4
     obtain rfl:K=5:=by omega
     clear b0 K0 hk hf hkes HC hl hans hin hcell hA hRA hRB hK hO hR HF h1 hk9 hZ
     by_cases h20:O=20
     ·subst h20
      rcases hr3 with rfl | rfl | rfl <;> rcases hr4 with rfl | rfl | rfl
      all_goals
       have hz:=HANS.out;simp at hz;clear HANS;subst hz;go_enter Tryz.func109,Tryz.ntmps109
       go_wp2_with first
        | (go_at_call 109; (with_reducible refine (HA1.out _ HK0.out).mono ?_); rintro e1 w1 ⟨rfl,hb1⟩
           have b1:=HB0.out.call hb1;obtain ⟨d0,d1,d2,d3,d4,d5⟩:=b1.c6;simp at d0 d1 d2 d3 d4 d5;have K1:=Lh (HK0.out.trans (hb1.mono HK0.out.size));obtain ⟨-,y0,y1,y2,y3,y4,y5⟩:=HCL.out _ K1.out;have hq1:q < w1.heap.size:=Nat.lt_of_lt_of_le hqw K1.out.size;have B1:=Lh b1
           clear b1 hb1)
        | (go_at_call 109; (with_reducible refine (HA2.out _ K1.out).mono ?_); rintro e2 w2 ⟨rfl,hb2⟩
           have b2:=B1.out.call hb2;obtain ⟨f0,f1,f2,f3,f4,f5⟩:=b2.c6;simp at f0 f1 f2 f3 f4 f5
           clear b2)
       go_ret;exact ⟨rfl,K1.out.trans (hb2.mono K1.out.size)⟩
     by_cases h21:O=21
     ·subst h21
      rcases hr3 with rfl | rfl | rfl <;> rcases hr4 with rfl | rfl | rfl
      all_goals
       have hz:=HANS.out;simp at hz;clear HANS;subst hz;go_enter Tryz.func109,Tryz.ntmps109
       go_wp2_with first
        | (go_at_call 109; (with_reducible refine (HA1.out _ HK0.out).mono ?_); rintro e1 w1 ⟨rfl,hb1⟩
           have b1:=HB0.out.call hb1;obtain ⟨d0,d1,d2,d3,d4,d5⟩:=b1.c6;simp at d0 d1 d2 d3 d4 d5;have K1:=Lh (HK0.out.trans (hb1.mono HK0.out.size));obtain ⟨-,y0,y1,y2,y3,y4,y5⟩:=HCL.out _ K1.out;have hq1:q < w1.heap.size:=Nat.lt_of_lt_of_le hqw K1.out.size;have B1:=Lh b1
           clear b1 hb1)
        | (go_at_call 109; (with_reducible refine (HA2.out _ K1.out).mono ?_); rintro e2 w2 ⟨rfl,hb2⟩
           have b2:=B1.out.call hb2;obtain ⟨f0,f1,f2,f3,f4,f5⟩:=b2.c6;simp at f0 f1 f2 f3 f4 f5
           clear b2)
       go_ret;exact ⟨rfl,K1.out.trans (hb2.mono K1.out.size)⟩
     have b20:(O == 20)=false:=by simpa using h20
     have b21:(O == 21)=false:=by simpa using h21
     have n20:(O != 20)=true:=by simpa using h20
     have n21:(O != 21)=true:=by simpa using h21
     simp only [ne_eq,h20,h21,not_false_eq_true,true_and] at HANS
     rcases hr3 with rfl | rfl | rfl <;> rcases hr4 with rfl | rfl | rfl
     all_goals
      have hz:=HANS.out;simp at hz;clear HANS;subst hz;go_enter Tryz.func109,Tryz.ntmps109
      go_wp2_with first
       | (go_at_call 109; (with_reducible refine (HA1.out _ HK0.out).mono ?_); rintro e1 w1 ⟨rfl,hb1⟩
          have b1:=HB0.out.call hb1;obtain ⟨d0,d1,d2,d3,d4,d5⟩:=b1.c6;simp at d0 d1 d2 d3 d4 d5;have K1:=Lh (HK0.out.trans (hb1.mono HK0.out.size));obtain ⟨-,y0,y1,y2,y3,y4,y5⟩:=HCL.out _ K1.out;have hq1:q < w1.heap.size:=Nat.lt_of_lt_of_le hqw K1.out.size;have B1:=Lh b1
          clear b1 hb1)
       | (go_at_call 109; (with_reducible refine (HA2.out _ K1.out).mono ?_); rintro e2 w2 ⟨rfl,hb2⟩
          have b2:=B1.out.call hb2;obtain ⟨f0,f1,f2,f3,f4,f5⟩:=b2.c6;simp at f0 f1 f2 f3 f4 f5
          clear b2)
      go_ret;exact ⟨rfl,K1.out.trans (hb2.mono K1.out.size)⟩
   | a :: b :: x :: r=>exfalso; rw [hl] at hk; simp at hk
end Go.Proofs.YtjndhfcfcedheaaGreatDoor
