/- Texts that belong together: KRJ. -/
import Derived.Test.YtjndhfcfcedheaaGreatDoorHK28
import Derived.Laws.ResultCell
set_option linter.unusedVariables false
set_option linter.unusedSimpArgs false
set_option maxRecDepth 100000
set_option maxHeartbeats 16000000
namespace Go.Proofs.YtjndhfcfcedheaaGreatDoor
open Go.RowKit
theorem Zie (n a b:Int) (w:World):Calls Tryz.prog 80 #[.int .i64 n,.agg #[.int .i64 a,.int .i64 b]] w (Zu (.bool (inI n a b)) w):=by
 have K0:Hid (Below w.heap.size w (w.alloc (.cells #[.int .i64 a,.int .i64 b] 35))):=Lh ((Below.refl _ _).alloc (Nat.le_refl _) _)
 by_cases h1:a≤n
 ·have HR:=Lh (show inI n a b=decide (n≤b) by simp [inI,h1]);go_enter Tryz.func80,Tryz.ntmps80
  go_wp2
  go_ret;exact ⟨by refine Za rfl ?_; rw [HR.out],K0.out⟩
 ·have HR:=Lh (show inI n a b=false by simp [inI,h1]);go_enter Tryz.func80,Tryz.ntmps80
  go_wp2
  go_ret;exact ⟨by refine Za rfl ?_; rw [HR.out],K0.out⟩
structure Zkh where
 c:Bool
 v:Bool
 i:Bool
 a0:Int
 a1:Int
 b0:Int
 b1:Int
 c0:Int
 c1:Int
 d0:Int
 d1:Int
def Zkh.cells (f:Zkh):Array Value:=#[.bool f.c,.bool f.v,.bool f.i,.int .i64 f.a0,.int .i64 f.a1,.int .i64 f.b0,.int .i64 f.b1,.int .i64 f.c0,.int .i64 f.c1,.int .i64 f.d0,.int .i64 f.d1]
def ZfR:Nat→Option Zkh
 | 1=>some ⟨false,false,false,0,0,0,0,0,0,0,0⟩
 | 2=>some ⟨false,false,false,0,0,0,0,0,0,0,0⟩
 | 3=>some ⟨false,true,false,0,0,0,0,0,0,0,0⟩
 | 4=>some ⟨false,false,false,1,8,1,8,0,0,0,0⟩
 | 5=>some ⟨true,false,true,1,1,0,0,0,0,0,0⟩
 | 6=>some ⟨true,false,true,0,0,1,1,0,0,0,0⟩
 | 7=>some ⟨false,false,false,1,1,0,0,0,0,0,0⟩
 | 8=>some ⟨false,false,false,0,0,1,1,0,0,0,0⟩
 | 9=>some ⟨false,false,false,0,0,0,0,0,0,0,2048⟩
 | 10=>some ⟨false,false,false,0,0,0,0,0,0,0,16⟩
 | 11=>some ⟨false,false,false,0,0,0,0,0,0,2,2⟩
 | 12=>some ⟨false,false,false,0,0,0,0,0,16,0,0⟩
 | 13=>some ⟨false,false,false,0,0,1,1,0,0,1,1⟩
 | 14=>some ⟨false,false,false,0,0,0,0,0,16,0,0⟩
 | 15=>some ⟨false,false,false,0,0,0,0,0,16,0,0⟩
 | _=>none
def formV (k:Nat):Value:=match ZfR k with
 | some f=>.tuple #[.agg f.cells,.bool true]
 | none=>.tuple #[.agg (Zkh.cells ⟨false,false,false,0,0,0,0,0,0,0,0⟩),.bool false]
theorem Zad:(Tryz.prog.info? 132).map (·.size)=some 11:=by kernel_rfl
theorem Ze {P:Program} {fn:Func} {p u:Tmp} {ty:TypeId} (h:fn.results=#[.cell p ty,.tmp u]) (tmps:Array Value) (w:World) (g:Nat) (t:TypeId) (cs:Array Value) (fr:Nat×Nat) (d:TypeDesc) (v:Value) (hv:tmps.getD u undef=v)
  (hp:tmps.getD p undef = .pointer (some ⟨g,0,none⟩)) (hg:w.heap[g]? = some (.cells cs t fr))
  (hu:P.underlying ty=some d) (hd:(match d with | .struct _ | .array _ _=>true | _=>false)=true) (hi:(P.info? ty).map (·.size)=some cs.size) :
  (results fn tmps).run P w = .ok (.tuple #[.agg cs,v]) w:=by
 have hp':tmps[p]?.getD undef = .pointer (some ⟨g,0,none⟩):=by simpa using hp
 have hv':tmps[u]?.getD undef=v:=by simpa using hv
 rw [results_cell_tmp h]
 simp [hp',hv',asAddr,run_loadVar_row w g t ty cs fr d hg hu hd hi,Result.andThen]
theorem ZX (w:World) (cs:Array Value):Below w.heap.size w (((w.alloc (.cells cs 132)).alloc (.cells #[.int .i64 1,.int .i64 1] 35)).alloc (.cells #[.int .i64 0,.int .i64 16] 35)) ∧
  (((w.alloc (.cells cs 132)).alloc (.cells #[.int .i64 1,.int .i64 1] 35)).alloc (.cells #[.int .i64 0,.int .i64 16] 35)).heap[w.heap.size]? = some (.cells cs 132 (0,0)):=by
 obtain ⟨h1,h2,-,-⟩:=lay3 w cs #[.int .i64 1,.int .i64 1] #[.int .i64 0,.int .i64 16] 132 35 35;exact ⟨h1,h2⟩
theorem ZmR (w:World):Calls Tryz.prog 79 #[.int .u8 1] w (Zu (.tuple #[.agg #[.bool false,.bool false,.bool false,.int .i64 0,.int .i64 0,.int .i64 0,.int .i64 0,.int .i64 0,.int .i64 0,.int .i64 0,.int .i64 0],.bool true]) w):=by
 go_enter Tryz.func79,Tryz.ntmps79
 go_wp2
 obtain ⟨k1,k2⟩:=ZX w #[.bool false,.bool false,.bool false,.int .i64 0,.int .i64 0,.int .i64 0,.int .i64 0,.int .i64 0,.int .i64 0,.int .i64 0,.int .i64 0];refine bodyPost_ret (v:=.tuple #[.agg #[.bool false,.bool false,.bool false,.int .i64 0,.int .i64 0,.int .i64 0,.int .i64 0,.int .i64 0,.int .i64 0,.int .i64 0,.int .i64 0],.bool true]) (Ze rfl _ _ w.heap.size _ _ (0,0) _ _ rfl rfl k2 Tryz.underlying132 rfl Zad) rfl ⟨rfl,k1⟩
theorem ZmQ (w:World):Calls Tryz.prog 79 #[.int .u8 2] w (Zu (.tuple #[.agg #[.bool false,.bool false,.bool false,.int .i64 0,.int .i64 0,.int .i64 0,.int .i64 0,.int .i64 0,.int .i64 0,.int .i64 0,.int .i64 0],.bool true]) w):=by
 go_enter Tryz.func79,Tryz.ntmps79
 go_wp2
 obtain ⟨k1,k2⟩:=ZX w #[.bool false,.bool false,.bool false,.int .i64 0,.int .i64 0,.int .i64 0,.int .i64 0,.int .i64 0,.int .i64 0,.int .i64 0,.int .i64 0];refine bodyPost_ret (v:=.tuple #[.agg #[.bool false,.bool false,.bool false,.int .i64 0,.int .i64 0,.int .i64 0,.int .i64 0,.int .i64 0,.int .i64 0,.int .i64 0,.int .i64 0],.bool true]) (Ze rfl _ _ w.heap.size _ _ (0,0) _ _ rfl rfl k2 Tryz.underlying132 rfl Zad) rfl ⟨rfl,k1⟩
theorem ZmP (w:World):Calls Tryz.prog 79 #[.int .u8 3] w (Zu (.tuple #[.agg #[.bool false,.bool true,.bool false,.int .i64 0,.int .i64 0,.int .i64 0,.int .i64 0,.int .i64 0,.int .i64 0,.int .i64 0,.int .i64 0],.bool true]) w):=by
 go_enter Tryz.func79,Tryz.ntmps79
 go_wp2
 obtain ⟨k1,k2⟩:=ZX w #[.bool false,.bool true,.bool false,.int .i64 0,.int .i64 0,.int .i64 0,.int .i64 0,.int .i64 0,.int .i64 0,.int .i64 0,.int .i64 0];refine bodyPost_ret (v:=.tuple #[.agg #[.bool false,.bool true,.bool false,.int .i64 0,.int .i64 0,.int .i64 0,.int .i64 0,.int .i64 0,.int .i64 0,.int .i64 0,.int .i64 0],.bool true]) (Ze rfl _ _ w.heap.size _ _ (0,0) _ _ rfl rfl k2 Tryz.underlying132 rfl Zad) rfl ⟨rfl,k1⟩
theorem ZmO (w:World):Calls Tryz.prog 79 #[.int .u8 4] w (Zu (.tuple #[.agg #[.bool false,.bool false,.bool false,.int .i64 1,.int .i64 8,.int .i64 1,.int .i64 8,.int .i64 0,.int .i64 0,.int .i64 0,.int .i64 0],.bool true]) w):=by
 go_enter Tryz.func79,Tryz.ntmps79
 go_wp2
 obtain ⟨k1,k2⟩:=ZX w #[.bool false,.bool false,.bool false,.int .i64 1,.int .i64 8,.int .i64 1,.int .i64 8,.int .i64 0,.int .i64 0,.int .i64 0,.int .i64 0];refine bodyPost_ret (v:=.tuple #[.agg #[.bool false,.bool false,.bool false,.int .i64 1,.int .i64 8,.int .i64 1,.int .i64 8,.int .i64 0,.int .i64 0,.int .i64 0,.int .i64 0],.bool true]) (Ze rfl _ _ w.heap.size _ _ (0,0) _ _ rfl rfl k2 Tryz.underlying132 rfl Zad) rfl ⟨rfl,k1⟩
theorem ZmN (w:World):Calls Tryz.prog 79 #[.int .u8 5] w (Zu (.tuple #[.agg #[.bool true,.bool false,.bool true,.int .i64 1,.int .i64 1,.int .i64 0,.int .i64 0,.int .i64 0,.int .i64 0,.int .i64 0,.int .i64 0],.bool true]) w):=by
 go_enter Tryz.func79,Tryz.ntmps79
 go_wp2
 obtain ⟨k1,k2⟩:=ZX w #[.bool true,.bool false,.bool true,.int .i64 1,.int .i64 1,.int .i64 0,.int .i64 0,.int .i64 0,.int .i64 0,.int .i64 0,.int .i64 0];refine bodyPost_ret (v:=.tuple #[.agg #[.bool true,.bool false,.bool true,.int .i64 1,.int .i64 1,.int .i64 0,.int .i64 0,.int .i64 0,.int .i64 0,.int .i64 0,.int .i64 0],.bool true]) (Ze rfl _ _ w.heap.size _ _ (0,0) _ _ rfl rfl k2 Tryz.underlying132 rfl Zad) rfl ⟨rfl,k1⟩
theorem ZmM (w:World):Calls Tryz.prog 79 #[.int .u8 6] w (Zu (.tuple #[.agg #[.bool true,.bool false,.bool true,.int .i64 0,.int .i64 0,.int .i64 1,.int .i64 1,.int .i64 0,.int .i64 0,.int .i64 0,.int .i64 0],.bool true]) w):=by
 go_enter Tryz.func79,Tryz.ntmps79
 go_wp2
 obtain ⟨k1,k2⟩:=ZX w #[.bool true,.bool false,.bool true,.int .i64 0,.int .i64 0,.int .i64 1,.int .i64 1,.int .i64 0,.int .i64 0,.int .i64 0,.int .i64 0];refine bodyPost_ret (v:=.tuple #[.agg #[.bool true,.bool false,.bool true,.int .i64 0,.int .i64 0,.int .i64 1,.int .i64 1,.int .i64 0,.int .i64 0,.int .i64 0,.int .i64 0],.bool true]) (Ze rfl _ _ w.heap.size _ _ (0,0) _ _ rfl rfl k2 Tryz.underlying132 rfl Zad) rfl ⟨rfl,k1⟩
theorem ZmL (w:World):Calls Tryz.prog 79 #[.int .u8 7] w (Zu (.tuple #[.agg #[.bool false,.bool false,.bool false,.int .i64 1,.int .i64 1,.int .i64 0,.int .i64 0,.int .i64 0,.int .i64 0,.int .i64 0,.int .i64 0],.bool true]) w):=by
 go_enter Tryz.func79,Tryz.ntmps79
 go_wp2
 obtain ⟨k1,k2⟩:=ZX w #[.bool false,.bool false,.bool false,.int .i64 1,.int .i64 1,.int .i64 0,.int .i64 0,.int .i64 0,.int .i64 0,.int .i64 0,.int .i64 0];refine bodyPost_ret (v:=.tuple #[.agg #[.bool false,.bool false,.bool false,.int .i64 1,.int .i64 1,.int .i64 0,.int .i64 0,.int .i64 0,.int .i64 0,.int .i64 0,.int .i64 0],.bool true]) (Ze rfl _ _ w.heap.size _ _ (0,0) _ _ rfl rfl k2 Tryz.underlying132 rfl Zad) rfl ⟨rfl,k1⟩
theorem ZmK (w:World):Calls Tryz.prog 79 #[.int .u8 8] w (Zu (.tuple #[.agg #[.bool false,.bool false,.bool false,.int .i64 0,.int .i64 0,.int .i64 1,.int .i64 1,.int .i64 0,.int .i64 0,.int .i64 0,.int .i64 0],.bool true]) w):=by
 go_enter Tryz.func79,Tryz.ntmps79
 go_wp2
 obtain ⟨k1,k2⟩:=ZX w #[.bool false,.bool false,.bool false,.int .i64 0,.int .i64 0,.int .i64 1,.int .i64 1,.int .i64 0,.int .i64 0,.int .i64 0,.int .i64 0];refine bodyPost_ret (v:=.tuple #[.agg #[.bool false,.bool false,.bool false,.int .i64 0,.int .i64 0,.int .i64 1,.int .i64 1,.int .i64 0,.int .i64 0,.int .i64 0,.int .i64 0],.bool true]) (Ze rfl _ _ w.heap.size _ _ (0,0) _ _ rfl rfl k2 Tryz.underlying132 rfl Zad) rfl ⟨rfl,k1⟩
theorem ZmJ (w:World):Calls Tryz.prog 79 #[.int .u8 9] w (Zu (.tuple #[.agg #[.bool false,.bool false,.bool false,.int .i64 0,.int .i64 0,.int .i64 0,.int .i64 0,.int .i64 0,.int .i64 0,.int .i64 0,.int .i64 2048],.bool true]) w):=by
 go_enter Tryz.func79,Tryz.ntmps79
 go_wp2
 obtain ⟨k1,k2⟩:=ZX w #[.bool false,.bool false,.bool false,.int .i64 0,.int .i64 0,.int .i64 0,.int .i64 0,.int .i64 0,.int .i64 0,.int .i64 0,.int .i64 2048];refine bodyPost_ret (v:=.tuple #[.agg #[.bool false,.bool false,.bool false,.int .i64 0,.int .i64 0,.int .i64 0,.int .i64 0,.int .i64 0,.int .i64 0,.int .i64 0,.int .i64 2048],.bool true]) (Ze rfl _ _ w.heap.size _ _ (0,0) _ _ rfl rfl k2 Tryz.underlying132 rfl Zad) rfl ⟨rfl,k1⟩
theorem ZkW (w:World):Calls Tryz.prog 79 #[.int .u8 10] w (Zu (.tuple #[.agg #[.bool false,.bool false,.bool false,.int .i64 0,.int .i64 0,.int .i64 0,.int .i64 0,.int .i64 0,.int .i64 0,.int .i64 0,.int .i64 16],.bool true]) w):=by
 go_enter Tryz.func79,Tryz.ntmps79
 go_wp2
 obtain ⟨k1,k2⟩:=ZX w #[.bool false,.bool false,.bool false,.int .i64 0,.int .i64 0,.int .i64 0,.int .i64 0,.int .i64 0,.int .i64 0,.int .i64 0,.int .i64 16];refine bodyPost_ret (v:=.tuple #[.agg #[.bool false,.bool false,.bool false,.int .i64 0,.int .i64 0,.int .i64 0,.int .i64 0,.int .i64 0,.int .i64 0,.int .i64 0,.int .i64 16],.bool true]) (Ze rfl _ _ w.heap.size _ _ (0,0) _ _ rfl rfl k2 Tryz.underlying132 rfl Zad) rfl ⟨rfl,k1⟩
theorem ZkV (w:World):Calls Tryz.prog 79 #[.int .u8 11] w (Zu (.tuple #[.agg #[.bool false,.bool false,.bool false,.int .i64 0,.int .i64 0,.int .i64 0,.int .i64 0,.int .i64 0,.int .i64 0,.int .i64 2,.int .i64 2],.bool true]) w):=by
 go_enter Tryz.func79,Tryz.ntmps79
 go_wp2
 obtain ⟨k1,k2⟩:=ZX w #[.bool false,.bool false,.bool false,.int .i64 0,.int .i64 0,.int .i64 0,.int .i64 0,.int .i64 0,.int .i64 0,.int .i64 2,.int .i64 2];refine bodyPost_ret (v:=.tuple #[.agg #[.bool false,.bool false,.bool false,.int .i64 0,.int .i64 0,.int .i64 0,.int .i64 0,.int .i64 0,.int .i64 0,.int .i64 2,.int .i64 2],.bool true]) (Ze rfl _ _ w.heap.size _ _ (0,0) _ _ rfl rfl k2 Tryz.underlying132 rfl Zad) rfl ⟨rfl,k1⟩
theorem ZkU (w:World):Calls Tryz.prog 79 #[.int .u8 12] w (Zu (.tuple #[.agg #[.bool false,.bool false,.bool false,.int .i64 0,.int .i64 0,.int .i64 0,.int .i64 0,.int .i64 0,.int .i64 16,.int .i64 0,.int .i64 0],.bool true]) w):=by
 go_enter Tryz.func79,Tryz.ntmps79
 go_wp2
 obtain ⟨k1,k2⟩:=ZX w #[.bool false,.bool false,.bool false,.int .i64 0,.int .i64 0,.int .i64 0,.int .i64 0,.int .i64 0,.int .i64 16,.int .i64 0,.int .i64 0];refine bodyPost_ret (v:=.tuple #[.agg #[.bool false,.bool false,.bool false,.int .i64 0,.int .i64 0,.int .i64 0,.int .i64 0,.int .i64 0,.int .i64 16,.int .i64 0,.int .i64 0],.bool true]) (Ze rfl _ _ w.heap.size _ _ (0,0) _ _ rfl rfl k2 Tryz.underlying132 rfl Zad) rfl ⟨rfl,k1⟩
theorem ZkT (w:World):Calls Tryz.prog 79 #[.int .u8 13] w (Zu (.tuple #[.agg #[.bool false,.bool false,.bool false,.int .i64 0,.int .i64 0,.int .i64 1,.int .i64 1,.int .i64 0,.int .i64 0,.int .i64 1,.int .i64 1],.bool true]) w):=by
 go_enter Tryz.func79,Tryz.ntmps79
 go_wp2
 obtain ⟨k1,k2⟩:=ZX w #[.bool false,.bool false,.bool false,.int .i64 0,.int .i64 0,.int .i64 1,.int .i64 1,.int .i64 0,.int .i64 0,.int .i64 1,.int .i64 1];refine bodyPost_ret (v:=.tuple #[.agg #[.bool false,.bool false,.bool false,.int .i64 0,.int .i64 0,.int .i64 1,.int .i64 1,.int .i64 0,.int .i64 0,.int .i64 1,.int .i64 1],.bool true]) (Ze rfl _ _ w.heap.size _ _ (0,0) _ _ rfl rfl k2 Tryz.underlying132 rfl Zad) rfl ⟨rfl,k1⟩
theorem ZkS (w:World):Calls Tryz.prog 79 #[.int .u8 14] w (Zu (.tuple #[.agg #[.bool false,.bool false,.bool false,.int .i64 0,.int .i64 0,.int .i64 0,.int .i64 0,.int .i64 0,.int .i64 16,.int .i64 0,.int .i64 0],.bool true]) w):=by
 go_enter Tryz.func79,Tryz.ntmps79
 go_wp2
 obtain ⟨k1,k2⟩:=ZX w #[.bool false,.bool false,.bool false,.int .i64 0,.int .i64 0,.int .i64 0,.int .i64 0,.int .i64 0,.int .i64 16,.int .i64 0,.int .i64 0];refine bodyPost_ret (v:=.tuple #[.agg #[.bool false,.bool false,.bool false,.int .i64 0,.int .i64 0,.int .i64 0,.int .i64 0,.int .i64 0,.int .i64 16,.int .i64 0,.int .i64 0],.bool true]) (Ze rfl _ _ w.heap.size _ _ (0,0) _ _ rfl rfl k2 Tryz.underlying132 rfl Zad) rfl ⟨rfl,k1⟩
theorem ZkR (w:World):Calls Tryz.prog 79 #[.int .u8 15] w (Zu (.tuple #[.agg #[.bool false,.bool false,.bool false,.int .i64 0,.int .i64 0,.int .i64 0,.int .i64 0,.int .i64 0,.int .i64 16,.int .i64 0,.int .i64 0],.bool true]) w):=by
 go_enter Tryz.func79,Tryz.ntmps79
 go_wp2
 obtain ⟨k1,k2⟩:=ZX w #[.bool false,.bool false,.bool false,.int .i64 0,.int .i64 0,.int .i64 0,.int .i64 0,.int .i64 0,.int .i64 16,.int .i64 0,.int .i64 0];refine bodyPost_ret (v:=.tuple #[.agg #[.bool false,.bool false,.bool false,.int .i64 0,.int .i64 0,.int .i64 0,.int .i64 0,.int .i64 0,.int .i64 16,.int .i64 0,.int .i64 0],.bool true]) (Ze rfl _ _ w.heap.size _ _ (0,0) _ _ rfl rfl k2 Tryz.underlying132 rfl Zad) rfl ⟨rfl,k1⟩
theorem ZkQ (k:Nat) (hk:ZfR k=none) (w:World):Calls Tryz.prog 79 #[.int .u8 k] w (Zu (.tuple #[.agg #[.bool false,.bool false,.bool false,.int .i64 0,.int .i64 0,.int .i64 0,.int .i64 0,.int .i64 0,.int .i64 0,.int .i64 0,.int .i64 0],.bool false]) w):=by
 have hne:∀ j,1≤j→j≤15→k≠j:=by
  rintro j h1 h2 rfl
  obtain rfl | rfl | rfl | rfl | rfl | rfl | rfl | rfl | rfl | rfl | rfl | rfl | rfl | rfl | rfl:k=1∨k=2∨k=3∨k=4∨k=5∨k=6∨k=7∨k=8∨k=9∨k=10∨k=11∨k=12∨k=13∨k=14∨k=15:=by omega
  all_goals cases hk
 have y1:((k:Int) == 1)=false:=by have:=hne 1 (by omega) (by omega); simp; omega
 have y2:((k:Int) == 2)=false:=by have:=hne 2 (by omega) (by omega); simp; omega
 have y3:((k:Int) == 3)=false:=by have:=hne 3 (by omega) (by omega); simp; omega
 have y4:((k:Int) == 4)=false:=by have:=hne 4 (by omega) (by omega); simp; omega
 have y5:((k:Int) == 5)=false:=by have:=hne 5 (by omega) (by omega); simp; omega
 have y6:((k:Int) == 6)=false:=by have:=hne 6 (by omega) (by omega); simp; omega
 have y7:((k:Int) == 7)=false:=by have:=hne 7 (by omega) (by omega); simp; omega
 have y8:((k:Int) == 8)=false:=by have:=hne 8 (by omega) (by omega); simp; omega
 have y9:((k:Int) == 9)=false:=by have:=hne 9 (by omega) (by omega); simp; omega
 have y10:((k:Int) == 10)=false:=by have:=hne 10 (by omega) (by omega); simp; omega
 have y11:((k:Int) == 11)=false:=by have:=hne 11 (by omega) (by omega); simp; omega
 have y12:((k:Int) == 12)=false:=by have:=hne 12 (by omega) (by omega); simp; omega
 have y13:((k:Int) == 13)=false:=by have:=hne 13 (by omega) (by omega); simp; omega
 have y14:((k:Int) == 14)=false:=by have:=hne 14 (by omega) (by omega); simp; omega
 have y15:((k:Int) == 15)=false:=by have:=hne 15 (by omega) (by omega); simp; omega
 clear hne hk;go_enter Tryz.func79,Tryz.ntmps79
 go_wp2
 obtain ⟨k1,k2⟩:=ZX w #[.bool false,.bool false,.bool false,.int .i64 0,.int .i64 0,.int .i64 0,.int .i64 0,.int .i64 0,.int .i64 0,.int .i64 0,.int .i64 0];refine bodyPost_ret (v:=.tuple #[.agg #[.bool false,.bool false,.bool false,.int .i64 0,.int .i64 0,.int .i64 0,.int .i64 0,.int .i64 0,.int .i64 0,.int .i64 0,.int .i64 0],.bool false]) (Ze rfl _ _ w.heap.size _ _ (0,0) _ _ rfl rfl k2 Tryz.underlying132 rfl Zad) rfl ⟨rfl,k1⟩
theorem ZjD (k:Nat) (f:Zkh) (hk:ZfR k=some f) (w:World):Calls Tryz.prog 79 #[.int .u8 k] w (Zu (.tuple #[.agg f.cells,.bool true]) w):=by
 unfold ZfR at hk
 split at hk
 all_goals first
  | (cases hk; done)
  | (injection hk with hk; subst hk)
 ·exact ZmR w
 ·exact ZmQ w
 ·exact ZmP w
 ·exact ZmO w
 ·exact ZmN w
 ·exact ZmM w
 ·exact ZmL w
 ·exact ZmK w
 ·exact ZmJ w
 ·exact ZkW w
 ·exact ZkV w
 ·exact ZkU w
 ·exact ZkT w
 ·exact ZkS w
 ·exact ZkR w
end Go.Proofs.YtjndhfcfcedheaaGreatDoor
