/- Texts that belong together: KRA. -/
import Derived.Test.YtjndhfcfcedheaaGreatDoorHK4
set_option linter.unusedVariables false
set_option linter.unusedSimpArgs false
set_option maxRecDepth 100000
set_option maxHeartbeats 16000000
namespace Go.Proofs.YtjndhfcfcedheaaGreatDoor
open Go.RowKit
theorem ZmE (k:Nat) (w:World):Calls Tryz.prog 48 #[.int .u8 k] w (Zmd (.bool (ZaT k)) w):=by
 by_cases k1:k=1
 ·subst k1;go_enter Tryz.func48,Tryz.ntmps48
  go_wp2
  go_ret;exact ⟨rfl,rfl⟩
 by_cases k2:k=2
 ·subst k2;go_enter Tryz.func48,Tryz.ntmps48
  go_wp2
  go_ret;exact ⟨rfl,rfl⟩
 have e1:((k:Int) == 1)=false:=by simp; omega
 have e2:((k:Int) == 2)=false:=by simp; omega
 by_cases k3:k=3
 ·subst k3;go_enter Tryz.func48,Tryz.ntmps48
  go_wp2
  go_ret;exact ⟨rfl,rfl⟩
 have e3:((k:Int) == 3)=false:=by simp; omega
 have HR:=Lh (show ZaT k=false by simp [ZaT]; omega);clear k1 k2 k3;go_enter Tryz.func48,Tryz.ntmps48
 go_wp2
 go_ret;exact ⟨by rw [HR.out]; rfl,rfl⟩
theorem ZpD (e:KE) (h:e.kind≤255) (w:World):Calls Tryz.prog 117 #[.agg e.cells] w (Zu (.bool (Zq e)) w):=by
 obtain ⟨k,o,t,n,v,A,c,l⟩:=e
 obtain ⟨m,hm⟩:∃ m,l.length=m:=⟨_,rfl⟩
 simp only [KE.cells] at h ⊢;have HT:=Lh (fun w1=>ZmE t w1);have HM:=Lh hm;rw [hm];clear hm
 by_cases k1:k=1
 ·subst k1;go_enter Tryz.func117,Tryz.ntmps117
  go_wp2
  all_goals (go_ret; exact ⟨by refine Za rfl ?_; simp only [Zq,HM.out]; rw [Bool.eq_iff_iff]; simp_all <;> omega,Z1 _ _ _ _ _⟩)
 by_cases k2:k=2
 ·subst k2;go_enter Tryz.func117,Tryz.ntmps117
  go_wp2
  all_goals (go_ret; exact ⟨by refine Za rfl ?_; simp only [Zq,HM.out]; rw [Bool.eq_iff_iff]; simp_all <;> omega,Z1 _ _ _ _ _⟩)
 by_cases k3:k=3
 ·subst k3;go_enter Tryz.func117,Tryz.ntmps117
  go_wp2
  all_goals (go_ret; exact ⟨by refine Za rfl ?_; simp only [Zq,HM.out]; rw [Bool.eq_iff_iff]; simp_all <;> omega,Z1 _ _ _ _ _⟩)
 by_cases k4:k=4
 ·subst k4;go_enter Tryz.func117,Tryz.ntmps117
  go_wp2
  all_goals (go_ret; exact ⟨by refine Za rfl ?_; simp only [Zq,HM.out]; rw [Bool.eq_iff_iff]; simp_all <;> omega,Z1 _ _ _ _ _⟩)
 by_cases k5:k=5
 ·subst k5;go_enter Tryz.func117,Tryz.ntmps117
  go_wp2
  all_goals (go_ret; exact ⟨by refine Za rfl ?_; simp only [Zq,HM.out]; rw [Bool.eq_iff_iff]; simp_all <;> omega,Z1 _ _ _ _ _⟩)
 by_cases k6:k=6
 ·subst k6;go_enter Tryz.func117,Tryz.ntmps117;have hp:ZaT t=decide (1≤t∧t≤3):=rfl;have HP:=Lh hp;clear hp;generalize ZaT t=pt at *
  cases pt
  all_goals
   go_wp2_with (go_at_call 48; (with_reducible refine (HT.out _).mono ?_); rintro e w1 ⟨rfl,rfl⟩)
   all_goals (go_ret; exact ⟨by have hp:=HP.out; refine Za rfl ?_; simp only [Zq,HM.out]; rw [Bool.eq_iff_iff]; simp_all <;> omega,Z1 _ _ _ _ _⟩)
 have e1:((k:Int) == 1)=false:=by simp; omega
 have e2:((k:Int) == 2)=false:=by simp; omega
 have e3:((k:Int) == 3)=false:=by simp; omega
 have e4:((k:Int) == 4)=false:=by simp; omega
 have e5:((k:Int) == 5)=false:=by simp; omega
 have e6:((k:Int) == 6)=false:=by simp; omega
 have HF:Hid (Zq ⟨k,o,t,n,v,A,c,l⟩=false):=Lh (by simp only [Zq]);clear k1 k2 k3 k4 k5 k6;go_enter Tryz.func117,Tryz.ntmps117
 go_wp2
 all_goals (go_ret; exact ⟨by rw [HF.out]; rfl,Z1 _ _ _ _ _⟩)
end Go.Proofs.YtjndhfcfcedheaaGreatDoor
