/- Texts that belong together: KD. -/
import Derived.Test.YtjndhfcfcedheaaGreatDoorHK1
set_option linter.unusedVariables false
set_option linter.unusedSimpArgs false
set_option maxRecDepth 100000
set_option maxHeartbeats 16000000
namespace Go.Proofs.YtjndhfcfcedheaaGreatDoor
open Go.RowKit
theorem ZmT {k:Nat} (h:k < 1):ZaT k=false:=by simp [ZaT]; omega
theorem ZmV {k:Nat} (h:3 < k):ZaT k=false:=by simp [ZaT]; omega
theorem ZmU {k:Nat} (h:1≤k) (h':k≤3):ZaT k=true:=by simp [ZaT]; omega
def Zmd (v:Value) (w:World) (e:Ending) (w':World):Prop:=e = .returned v∧w=w'
theorem ZoL (k:Nat) (w:World):Calls Tryz.prog 37 #[.int .u8 k] w (Zmd (.bool (ZaT k)) w):=by
 rcases Nat.lt_or_ge k 1 with h | h
 ·have hI:¬ (1:Int)≤k:=by omega
  have HR:=Lh (ZmT h);clear h;go_enter Tryz.func37,Tryz.ntmps37
  go_wp2
  go_ret;exact ⟨by rw [HR.out]; rfl,rfl⟩
 ·have hI:(1:Int)≤k:=by omega
  rcases Nat.lt_or_ge 3 k with h3 | h3
  ·have h3I:¬ (k:Int)≤3:=by omega
   have HR:=Lh (ZmV h3);clear h h3;go_enter Tryz.func37,Tryz.ntmps37
   go_wp2
   go_ret;exact ⟨by rw [HR.out]; rfl,rfl⟩
  ·have h3I:(k:Int)≤3:=by omega
   have HR:=Lh (ZmU h h3);clear h h3;go_enter Tryz.func37,Tryz.ntmps37
   go_wp2
   go_ret;exact ⟨by rw [HR.out]; rfl,rfl⟩
theorem Z1 (w:World) (x y:Array Value) (t u:TypeId):Below w.heap.size w ((w.alloc (.cells x t)).alloc (.cells y u)):=((Below.refl _ _).alloc (Nat.le_refl _) _).alloc (by simp) _
theorem Za {a b:Bool} {v:Value} (h:v = .bool a) (h2:a=b):Ending.returned v = .returned (.bool b):=by rw [h,h2]
theorem ZoQ (e:KE) (h:e.kind≤255) (w:World):Calls Tryz.prog 111 #[.agg e.cells] w (Zu (.bool (Zq e)) w):=by
 obtain ⟨k,o,t,n,v,A,c,l⟩:=e
 obtain ⟨m,hm⟩:∃ m,l.length=m:=⟨_,rfl⟩
 simp only [KE.cells] at h ⊢;have HT:=Lh (fun w1=>ZoL t w1);have HM:=Lh hm;rw [hm];clear hm
 by_cases k1:k=1
 ·subst k1;go_enter Tryz.func111,Tryz.ntmps111
  go_wp2
  all_goals (go_ret; exact ⟨by refine Za rfl ?_; simp only [Zq,HM.out]; rw [Bool.eq_iff_iff]; simp_all <;> omega,Z1 _ _ _ _ _⟩)
 by_cases k2:k=2
 ·subst k2;go_enter Tryz.func111,Tryz.ntmps111
  go_wp2
  all_goals (go_ret; exact ⟨by refine Za rfl ?_; simp only [Zq,HM.out]; rw [Bool.eq_iff_iff]; simp_all <;> omega,Z1 _ _ _ _ _⟩)
 by_cases k3:k=3
 ·subst k3;go_enter Tryz.func111,Tryz.ntmps111
  go_wp2
  all_goals (go_ret; exact ⟨by refine Za rfl ?_; simp only [Zq,HM.out]; rw [Bool.eq_iff_iff]; simp_all <;> omega,Z1 _ _ _ _ _⟩)
 by_cases k4:k=4
 ·subst k4;go_enter Tryz.func111,Tryz.ntmps111
  go_wp2
  all_goals (go_ret; exact ⟨by refine Za rfl ?_; simp only [Zq,HM.out]; rw [Bool.eq_iff_iff]; simp_all <;> omega,Z1 _ _ _ _ _⟩)
 by_cases k5:k=5
 ·subst k5;go_enter Tryz.func111,Tryz.ntmps111
  go_wp2
  all_goals (go_ret; exact ⟨by refine Za rfl ?_; simp only [Zq,HM.out]; rw [Bool.eq_iff_iff]; simp_all <;> omega,Z1 _ _ _ _ _⟩)
 by_cases k6:k=6
 ·subst k6;go_enter Tryz.func111,Tryz.ntmps111;have hp:ZaT t=decide (1≤t∧t≤3):=rfl;have HP:=Lh hp;clear hp;generalize ZaT t=pt at *
  cases pt
  all_goals
   go_wp2_with (go_at_call 37; (with_reducible refine (HT.out _).mono ?_); rintro e w1 ⟨rfl,rfl⟩)
   all_goals (go_ret; exact ⟨by have hp:=HP.out; refine Za rfl ?_; simp only [Zq,HM.out]; rw [Bool.eq_iff_iff]; simp_all <;> omega,Z1 _ _ _ _ _⟩)
 have e1:((k:Int) == 1)=false:=by simp; omega
 have e2:((k:Int) == 2)=false:=by simp; omega
 have e3:((k:Int) == 3)=false:=by simp; omega
 have e4:((k:Int) == 4)=false:=by simp; omega
 have e5:((k:Int) == 5)=false:=by simp; omega
 have e6:((k:Int) == 6)=false:=by simp; omega
 have HF:Hid (Zq ⟨k,o,t,n,v,A,c,l⟩=false):=Lh (by simp only [Zq]);clear k1 k2 k3 k4 k5 k6;go_enter Tryz.func111,Tryz.ntmps111
 go_wp2
 all_goals (go_ret; exact ⟨by rw [HF.out]; rfl,Z1 _ _ _ _ _⟩)
end Go.Proofs.YtjndhfcfcedheaaGreatDoor
