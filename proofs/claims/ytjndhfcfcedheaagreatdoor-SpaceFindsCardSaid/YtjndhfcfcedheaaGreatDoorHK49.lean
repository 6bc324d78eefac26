/- Texts that belong together: WO. -/
import Derived.Test.YtjndhfcfcedheaaGreatDoorHK48
import Derived.Test.YtjndhfcfcedheaaGreatDoorHK11
import Derived.Test.YtjndhfcfcedheaaGreatDoorHK18
import Derived.Test.YtjndhfcfcedheaaGreatDoorHK26
set_option linter.unusedVariables false
set_option linter.unusedSimpArgs false
set_option maxRecDepth 100000
set_option maxHeartbeats 16000000
namespace Go.Proofs.YtjndhfcfcedheaaGreatDoor
open Go.RowKit
section
theorem Zb6 (v:Int) (w:World):Calls Tryz.prog 54 #[.int .i64 v] w (Zu (.agg #[.int .u8 2,.int .u8 0,.int .u8 0,.int .i32 0,.int .i64 v,.slice none 0 0]) w):=by
 obtain ⟨W0,hW0⟩:∃ W0,w.alloc (.cells #[.int .u8 0,.int .u8 0,.int .u8 0,.int .i32 0,.int .i64 0,.slice none 0 0] 65)=W0:=⟨_,rfl⟩
 have K0:Hid (Below w.heap.size w W0):=Lh (by rw [← hW0]; exact (Below.refl _ _).alloc (Nat.le_refl _) _)
 have b0:Blk W0 w.heap.size 65 #[.int .u8 0,.int .u8 0,.int .u8 0,.int .i32 0,.int .i64 0,.slice none 0 0]:=by rw [← hW0]; exact Blk.new _ _ _
 have HB:=Lh b0;have hlt:=b0.lt;obtain ⟨e0,e1,e2,e3,e4,e5⟩:=b0.c6;simp at e0 e1 e2 e3 e4 e5;obtain ⟨f0,f1,f2,f3,f4,f5⟩:=b0.z6;clear b0;go_enter Tryz.func54,Tryz.ntmps54
 go_upto_region 1 with fail
 clear hW0
 go_wp2
 have hb:=(((((HB.out.set_ 0 (.int .u8 2)).set_ 1 (.int .u8 0)).set_ 2 (.int .u8 0)).set_ 3 (.int .i32 0)).set_ 4 (.int .i64 v)).set_ 5 (.slice none 0 0);have hz:=Nat.le_refl w.heap.size;refine bodyPost_ret (v:=.agg #[.int .u8 2,.int .u8 0,.int .u8 0,.int .i32 0,.int .i64 v,.slice none 0 0]) (results_cell_row rfl _ _ w.heap.size _ _ (0,0) _ rfl (show _=_ from by have:Blk _ _ _ _:=hb; simp at this; exact this) Tryz.underlying65 rfl (by kernel_rfl)) rfl ⟨rfl,(((((K0.out.setCell hz _).setCell hz _).setCell hz _).setCell hz _).setCell hz _).setCell hz _⟩
structure Sm4 (w0 W:World) (l:List (Nat×TypeId×Array Value)):Prop where
 bel:Below w0.heap.size w0 W
 blks:∀ x∈l,w0.heap.size≤x.1∧Blk W x.1 x.2.1 x.2.2
section
variable {w0 W W':World} {l:List (Nat×TypeId×Array Value)} {g3 g4 g5 g6 o4:Nat}
theorem Sm4.call (h:Sm4 w0 W l) (hb:Below W.heap.size W W'):Sm4 w0 W' l:=⟨h.bel.trans (hb.mono h.bel.size),fun x hx=>⟨(h.blks x hx).1,(h.blks x hx).2.call hb⟩⟩
theorem Sm4.more (h:Sm4 w0 W l) (t:TypeId) (cs:Array Value):Sm4 w0 (W.alloc (.cells cs t)) (l++[(W.heap.size,t,cs)]) :=
 ⟨h.bel.alloc h.bel.size _,fun x hx=>by
  rcases List.mem_append.1 hx with hx | hx
  ·exact ⟨(h.blks x hx).1,(h.blks x hx).2.alloc _⟩
  ·simp at hx; subst hx; exact ⟨h.bel.size,Blk.new _ _ _⟩⟩
theorem Sm4.sb (h:Hid (Sm4 w0 W l)):Zi w0 W:=(Zi.refl w0).below h.out.bel
def E4 (g:Nat):Nat×TypeId×Array Value:=(g,65,#[.int .u8 2,.int .u8 0,.int .u8 0,.int .i32 0,.int .i64 2,.slice none 0 0])
def E5 (g g4:Nat):Nat×TypeId×Array Value:=(g,105,#[.int .i64 1,.slice (some ⟨g4,0,none⟩) 1 1])
def E6 (g g3:Nat):Nat×TypeId×Array Value:=(g,65,#[.int .u8 5,.int .u8 1,.int .u8 0,.int .i32 0,.int .i64 0,.slice (some ⟨g3,0,none⟩) 2 2])
def EO (g:Nat):Nat×TypeId×Array Value:=(g,31,#[.int .u8 0,.int .i64 0,.int .i64 0,.int .u8 0,.slice none 0 0,.slice none 0 0,.slice none 0 0,.slice none 0 0])
theorem Sm4.m4 (h:Sm4 w0 W l):Sm4 w0 (W.alloc (.cells #[.int .u8 2,.int .u8 0,.int .u8 0,.int .i32 0,.int .i64 2,.slice none 0 0] 65)) (l++[E4 W.heap.size]):=h.more _ _
theorem Sm4.m5 (h:Sm4 w0 W l):Sm4 w0 (W.alloc (.cells #[.int .i64 1,.slice (some ⟨g4,0,none⟩) 1 1] 105)) (l++[E5 W.heap.size g4]):=h.more _ _
theorem Sm4.m6 (h:Sm4 w0 W l):Sm4 w0 (W.alloc (.cells #[.int .u8 5,.int .u8 1,.int .u8 0,.int .i32 0,.int .i64 0,.slice (some ⟨g3,0,none⟩) 2 2] 65)) (l++[E6 W.heap.size g3]):=h.more _ _
theorem Sm4.mo (h:Sm4 w0 W l):Sm4 w0 (W.alloc (.cells #[.int .u8 0,.int .i64 0,.int .i64 0,.int .u8 0,.slice none 0 0,.slice none 0 0,.slice none 0 0,.slice none 0 0] 31)) (l++[EO W.heap.size]):=h.more _ _
theorem Sm4.fin (h:Sm4 w0 W l) (h4:E4 g4∈l) (h5:E5 g5 g4∈l) (h6:E6 g6 g3∈l) (ho:EO o4∈l) {W1:World} (hW1:(((((((W.setCell ⟨o4,0,none⟩ (.int .u8 4)).setCell ⟨o4,1,none⟩ (.int .i64 0)).setCell ⟨o4,2,none⟩ (.int .i64 0)).setCell ⟨o4,3,none⟩ (.int .u8 0)).setCell ⟨o4,4,none⟩ (.slice (some ⟨g5,0,none⟩) 1 1)).setCell ⟨o4,5,none⟩ (.slice (some ⟨g6,0,none⟩) 1 1)).setCell ⟨o4,6,none⟩ (.slice none 0 0)).setCell ⟨o4,7,none⟩ (.slice none 0 0)=W1) :
  Below w0.heap.size w0 W1∧Blk W1 g4 65 #[.int .u8 2,.int .u8 0,.int .u8 0,.int .i32 0,.int .i64 2,.slice none 0 0]∧Blk W1 g5 105 #[.int .i64 1,.slice (some ⟨g4,0,none⟩) 1 1]∧Blk W1 g6 65 #[.int .u8 5,.int .u8 1,.int .u8 0,.int .i32 0,.int .i64 0,.slice (some ⟨g3,0,none⟩) 2 2]∧Blk W1 o4 31 #[.int .u8 4,.int .i64 0,.int .i64 0,.int .u8 0,.slice (some ⟨g5,0,none⟩) 1 1,.slice (some ⟨g6,0,none⟩) 1 1,.slice none 0 0,.slice none 0 0]:=by
 simp only [E4,E5,E6,EO] at h4 h5 h6 ho;have b4:=(h.blks _ h4).2;have b5:=(h.blks _ h5).2;have b6:=(h.blks _ h6).2;have bo:=(h.blks _ ho).2;have hz:=(h.blks _ ho).1
 have far:∀ {g:Nat} {t:TypeId} {cs:Array Value},Blk W g t cs→t≠31→Blk W1 g t cs:=fun {g t cs} hb ht=>by
  have hn:g≠o4:=hb.ne_ bo ht;rw [← hW1];exact Zk (Zk (Zk (Zk (Zk (Zk (Zk (Zk hb hn) hn) hn) hn) hn) hn) hn) hn
 have hb:Below w0.heap.size w0 W1:=by rw [← hW1]; exact (((((((h.bel.setCell hz _).setCell hz _).setCell hz _).setCell hz _).setCell hz _).setCell hz _).setCell hz _).setCell hz _
 refine ⟨hb,far b4 (by decide),far b5 (by decide),far b6 (by decide),?_⟩;have:=(((((((bo.set_ 0 (.int .u8 4)).set_ 1 (.int .i64 0)).set_ 2 (.int .i64 0)).set_ 3 (.int .u8 0)).set_ 4 (.slice (some ⟨g5,0,none⟩) 1 1)).set_ 5 (.slice (some ⟨g6,0,none⟩) 1 1)).set_ 6 (.slice none 0 0)).set_ 7 (.slice none 0 0);rw [hW1] at this
 simpa using this
theorem Sm4.sb8 {W2:World} {Q:Prop} (h:Hid (Below w0.heap.size w0 W2∧Q)):Zi w0 W2:=(Zi.refl w0).below h.out.1
end
theorem Zpw {G:Prop} {H P:World→Prop} (main:Hid (∀ x,H x→P x)→G) (tail:∀ x,H x→P x):G:=main (Lh tail)
theorem Zgs {G:Prop} {H P:Nat→World→Prop} (main:Hid (∀ a0 x,H a0 x→P a0 x)→G) (tail:∀ a0 x,H a0 x→P a0 x):G:=main (Lh tail)
theorem Zfr {G:Prop} {H P:Nat→Nat→World→Prop} (main:Hid (∀ a0 a1 x,H a0 a1 x→P a0 a1 x)→G) (tail:∀ a0 a1 x,H a0 a1 x→P a0 a1 x):G:=main (Lh tail)
theorem Zhp {G:Prop} {H P:Nat→Nat→Nat→World→Prop} (main:Hid (∀ a0 a1 a2 x,H a0 a1 a2 x→P a0 a1 a2 x)→G) (tail:∀ a0 a1 a2 x,H a0 a1 a2 x→P a0 a1 a2 x):G:=main (Lh tail)
theorem ZnJ {G:Prop} {H P:Nat→Nat→Nat→Nat→World→Prop} (main:Hid (∀ a0 a1 a2 a3 x,H a0 a1 a2 a3 x→P a0 a1 a2 a3 x)→G) (tail:∀ a0 a1 a2 a3 x,H a0 a1 a2 a3 x→P a0 a1 a2 a3 x):G:=main (Lh tail)
theorem Sm4.sub {w0 W:World} {l l':List (Nat×TypeId×Array Value)} (h:Sm4 w0 W l) (hs:∀ x∈l',x∈l):Sm4 w0 W l':=⟨h.bel,fun x hx=>h.blks x (hs x hx)⟩
structure SmS (w:World) (W:World):Prop where
 bel:Below w.heap.size w W
 res:Blk W w.heap.size 34 #[.slice none 0 0,.slice none 0 0,.int .u8 0,.int .i64 0,.int .i64 0,.int .u8 0,.slice none 0 0,.slice none 0 0,.slice none 0 0,.slice none 0 0,.slice none 0 0]
theorem SmS.call {w W W':World} (h:SmS w W) (hb:Below W.heap.size W W'):SmS w W':=⟨h.bel.trans (hb.mono h.bel.size),h.res.call hb⟩
structure SmR (w W:World) (g1 g2 g3 g4 g5 g6:Nat):Prop where
 bel:Below w.heap.size w W
 res:Blk W w.heap.size 34 #[.slice none 0 0,.slice none 0 0,.int .u8 0,.int .i64 0,.int .i64 0,.int .u8 0,.slice none 0 0,.slice none 0 0,.slice none 0 0,.slice none 0 0,.slice none 0 0]
 a:SmA W g1 g2 g3 g4 g5 g6
 o1:Blk W (g1+1) 31 #[.int .u8 6,.int .i64 2,.int .i64 0,.int .u8 1,.slice none 0 0,.slice (some ⟨g1,0,none⟩) 1 1,.slice none 0 0,.slice none 0 0]
theorem SmR.call {w W W':World} {g1 g2 g3 g4 g5 g6:Nat} (h:SmR w W g1 g2 g3 g4 g5 g6) (hb:Below W.heap.size W W'):SmR w W' g1 g2 g3 g4 g5 g6 :=
 ⟨h.bel.trans (hb.mono h.bel.size),h.res.call hb,h.a.call hb,h.o1.call hb⟩
theorem Zhj {W W':World} {a b:Obj} (h:(W.alloc a).alloc b=W'):Below W.heap.size W W':=by
 rw [← h]; exact ((Below.refl _ _).alloc (Nat.le_refl _) _).alloc (by simp) _
theorem SmR.two {w W W':World} {g1 g2 g3 g4 g5 g6:Nat} (h:SmR w W g1 g2 g3 g4 g5 g6) {ca cb:Array Value} {ta tb:TypeId} (hw:(W.alloc (.cells ca ta)).alloc (.cells cb tb)=W') :
  SmR w W' g1 g2 g3 g4 g5 g6∧Blk W' W.heap.size ta ca∧Blk W' (W.heap.size+1) tb cb :=
 ⟨h.call (Zhj hw),by rw [← hw]; exact (Blk.new _ _ _).alloc _,by
  rw [← hw];have:=Blk.new (W.alloc (.cells ca ta)) tb cb
  rwa [World.size_alloc] at this⟩
theorem Zg4:(Tryz.prog.info? 34).map (·.size)=some 11:=by kernel_rfl
theorem SmR.last {w W WF:World} {g1 g2 g3 g4 g5 g6 g7 g8:Nat} (h:SmR w W g1 g2 g3 g4 g5 g6) (h7:Blk W g7 31 (ZqN g2 g5 g6)) (h8:Blk W g8 31 (ZqO g1 g7))
  {W1:World} (hW1:(((((((((((W.setCell ⟨w.heap.size,0,none⟩ (.slice (some ⟨W.heap.size,0,none⟩) 3 3)).setCell ⟨w.heap.size,1,none⟩ (.slice (some ⟨W.heap.size+1,0,none⟩) 3 3)).setCell ⟨w.heap.size,2,none⟩ (.int .u8 9)).setCell ⟨w.heap.size,3,none⟩ (.int .i64 0)).setCell ⟨w.heap.size,4,none⟩ (.int .i64 0)).setCell ⟨w.heap.size,5,none⟩ (.int .u8 0)).setCell ⟨w.heap.size,6,none⟩ (.slice none 0 0)).setCell ⟨w.heap.size,7,none⟩ (.slice none 0 0)).setCell ⟨w.heap.size,8,none⟩ (.slice none 0 0)).setCell ⟨w.heap.size,9,none⟩ (.slice (some ⟨W.heap.size+1+1,0,none⟩) 2 2)).setCell ⟨w.heap.size,10,none⟩ (.slice none 0 0))=W1) (hW:((W1.alloc (.cells #[.int .u8 1,.int .i64 0,.int .u8 1,.int .i64 3,.int .u8 1,.int .i64 0] 92)).alloc (.cells #[.int .u8 1,.int .u8 2,.int .u8 0] 94)).alloc (.cells #[.int .u8 3,.int .i64 0,.int .i64 0,.int .u8 0,.slice none 0 0,.slice none 0 0,.slice none 0 0,.slice none 0 0,.int .u8 10,.int .i64 0,.int .i64 0,.int .u8 0,.slice none 0 0,.slice none 0 0,.slice none 0 0,.slice (some ⟨g8,0,none⟩) 2 2] 31)=WF) :
  Blk WF w.heap.size 34 #[.slice (some ⟨W.heap.size,0,none⟩) 3 3,.slice (some ⟨W.heap.size+1,0,none⟩) 3 3,.int .u8 9,.int .i64 0,.int .i64 0,.int .u8 0,.slice none 0 0,.slice none 0 0,.slice none 0 0,.slice (some ⟨W.heap.size+1+1,0,none⟩) 2 2,.slice none 0 0] ∧
  (ZbG (some ⟨g1,0,none⟩) (some ⟨g2,0,none⟩) (some ⟨g3,0,none⟩) (some ⟨g4,0,none⟩) (some ⟨g5,0,none⟩) (some ⟨g6,0,none⟩) (some ⟨g7,0,none⟩) (some ⟨g8,0,none⟩) (some ⟨W.heap.size+1+1,0,none⟩) (some ⟨W.heap.size,0,none⟩) (some ⟨W.heap.size+1,0,none⟩)).In WF WF.heap.size ∧
  Below w.heap.size w WF:=by
 have hs:W1.heap.size=W.heap.size:=by rw [← hW1]; simp
 have hb1:Below w.heap.size w W1:=by rw [← hW1]; exact (((((((((((h.bel.setCell (Nat.le_refl _) _).setCell (Nat.le_refl _) _).setCell (Nat.le_refl _) _).setCell (Nat.le_refl _) _).setCell (Nat.le_refl _) _).setCell (Nat.le_refl _) _).setCell (Nat.le_refl _) _).setCell (Nat.le_refl _) _).setCell (Nat.le_refl _) _).setCell (Nat.le_refl _) _).setCell (Nat.le_refl _) _)
 have far:∀ {g:Nat} {t:TypeId} {cs:Array Value},Blk W g t cs→t≠34→Blk W1 g t cs:=fun {g t cs} hb ht=>by
  have hn:g≠w.heap.size:=hb.ne_ h.res ht;rw [← hW1];exact (Zk (Zk (Zk (Zk (Zk (Zk (Zk (Zk (Zk (Zk (Zk hb hn) hn) hn) hn) hn) hn) hn) hn) hn) hn) hn)
 have r1:Blk W1 w.heap.size 34 #[.slice (some ⟨W.heap.size,0,none⟩) 3 3,.slice (some ⟨W.heap.size+1,0,none⟩) 3 3,.int .u8 9,.int .i64 0,.int .i64 0,.int .u8 0,.slice none 0 0,.slice none 0 0,.slice none 0 0,.slice (some ⟨W.heap.size+1+1,0,none⟩) 2 2,.slice none 0 0]:=by
  have:=(((((((((((h.res.set_ 0 (.slice (some ⟨W.heap.size,0,none⟩) 3 3)).set_ 1 (.slice (some ⟨W.heap.size+1,0,none⟩) 3 3)).set_ 2 (.int .u8 9)).set_ 3 (.int .i64 0)).set_ 4 (.int .i64 0)).set_ 5 (.int .u8 0)).set_ 6 (.slice none 0 0)).set_ 7 (.slice none 0 0)).set_ 8 (.slice none 0 0)).set_ 9 (.slice (some ⟨W.heap.size+1+1,0,none⟩) 2 2)).set_ 10 (.slice none 0 0))
  rw [hW1] at this
  simpa using this
 have a1:SmA W1 g1 g2 g3 g4 g5 g6:=⟨far h.a.b1 (by decide),far h.a.b2 (by decide),far h.a.b3 (by decide),far h.a.b4 (by decide),far h.a.b5 (by decide),far h.a.b6 (by decide)⟩
 have c7:=far h7 (by decide);have c8:=far h8 (by decide);clear hW1 far
 have k:Below W1.heap.size W1 WF:=by rw [← hW]; exact (((Below.refl _ _).alloc (Nat.le_refl _) _).alloc (by simp) _).alloc (by simp; omega) _
 have bv:Blk WF W.heap.size 92 #[.int .u8 1,.int .i64 0,.int .u8 1,.int .i64 3,.int .u8 1,.int .i64 0]:=by rw [← hW,← hs]; exact ((Blk.new _ _ _).alloc _).alloc _
 have bc:Blk WF (W.heap.size+1) 94 #[.int .u8 1,.int .u8 2,.int .u8 0]:=by
  rw [← hW,← hs];have:=Blk.new (W1.alloc (.cells #[.int .u8 1,.int .i64 0,.int .u8 1,.int .i64 3,.int .u8 1,.int .i64 0] 92)) 94 #[.int .u8 1,.int .u8 2,.int .u8 0];rw [World.size_alloc] at this;exact this.alloc _
 have br:Blk WF (W.heap.size+1+1) 31 (Zoo g8):=by
  rw [← hW,← hs];have:=Blk.new ((W1.alloc (.cells #[.int .u8 1,.int .i64 0,.int .u8 1,.int .i64 3,.int .u8 1,.int .i64 0] 92)).alloc (.cells #[.int .u8 1,.int .u8 2,.int .u8 0] 94)) 31 (Zoo g8);rw [World.size_alloc,World.size_alloc] at this;exact this
 exact ⟨r1.call k,Zol (a1.call k) (c7.call k) (c8.call k) br bv bc,hb1.trans (k.mono hb1.size)⟩
theorem ZoD (w:World):Calls Tryz.prog 31 #[] w (fun e w'=>∃ a1 a2 a3 a4 a5 a6 a7 a8 a9 av ac:Option Addr,e = .returned (.agg (ZbG a1 a2 a3 a4 a5 a6 a7 a8 a9 av ac).flat)∧Hid ((ZbG a1 a2 a3 a4 a5 a6 a7 a8 a9 av ac).In w' w'.heap.size)∧Hid (Below w.heap.size w w')):=by
 obtain ⟨W0,hW0⟩:∃ W0,w.alloc (.cells #[.slice none 0 0,.slice none 0 0,.int .u8 0,.int .i64 0,.int .i64 0,.int .u8 0,.slice none 0 0,.slice none 0 0,.slice none 0 0,.slice none 0 0,.slice none 0 0] 34)=W0:=⟨_,rfl⟩
 have S0:Hid (SmS w W0):=Lh (by rw [← hW0]; exact ⟨(Below.refl _ _).alloc (Nat.le_refl _) _,Blk.new _ _ _⟩);go_enter Tryz.func31,Tryz.ntmps31
 go_upto_region 1 with fail
 clear hW0
 go_upto_region 2 with (go_at_call 54; (refine (Zb6 0 _).mono ?_); rintro e1 w1 ⟨rfl,k1⟩)
 obtain ⟨W1,hW1⟩:∃ W1,(w1.alloc (.cells #[.int .u8 2,.int .u8 0,.int .u8 0,.int .i32 0,.int .i64 0,.slice none 0 0] 65)).alloc (.cells #[.int .u8 6,.int .i64 2,.int .i64 0,.int .u8 1,.slice none 0 0,.slice (some ⟨w1.heap.size,0,none⟩) 1 1,.slice none 0 0,.slice none 0 0] 31)=W1:=⟨_,rfl⟩
 have hb1:Below w1.heap.size w1 W1:=by rw [← hW1]; exact ((Below.refl _ _).alloc (Nat.le_refl _) _).alloc (by simp) _
 have S1:=Lh (S0.out.call (k1.trans (hb1.mono k1.size)));have L1:Hid (Blk W1 w1.heap.size 65 #[.int .u8 2,.int .u8 0,.int .u8 0,.int .i32 0,.int .i64 0,.slice none 0 0]):=Lh (by rw [← hW1]; exact (Blk.new _ _ _).alloc _);have O1:Hid (Blk W1 (w1.heap.size+1) 31 #[.int .u8 6,.int .i64 2,.int .i64 0,.int .u8 1,.slice none 0 0,.slice (some ⟨w1.heap.size,0,none⟩) 1 1,.slice none 0 0,.slice none 0 0]):=Lh (by rw [← hW1]; have:=Blk.new (w1.alloc (.cells #[.int .u8 2,.int .u8 0,.int .u8 0,.int .i32 0,.int .i64 0,.slice none 0 0] 65)) 31 #[.int .u8 6,.int .i64 2,.int .i64 0,.int .u8 1,.slice none 0 0,.slice (some ⟨w1.heap.size,0,none⟩) 1 1,.slice none 0 0,.slice none 0 0]; rwa [World.size_alloc] at this);rw [hW1]
 obtain ⟨g1,hg1⟩:∃ g,w1.heap.size=g:=⟨_,rfl⟩
 rw [hg1] at L1 O1 ⊢;clear hW1 hb1 k1 S0 hg1
 go_upto_region 3 with fail
 obtain ⟨W2,hW2⟩:∃ W2,(W1.alloc (.cells #[.int .i64 2,.slice none 0 0] 105)).alloc (.cells #[.int .u8 5,.int .i64 2,.int .i64 0,.int .u8 1,.slice (some ⟨W1.heap.size,0,none⟩) 1 1,.slice none 0 0,.slice none 0 0,.slice none 0 0] 31)=W2:=⟨_,rfl⟩
 have hb2:Below W1.heap.size W1 W2:=by rw [← hW2]; exact ((Below.refl _ _).alloc (Nat.le_refl _) _).alloc (by simp) _
 have S2:=Lh (S1.out.call hb2);have L1b:=Lh (L1.out.call hb2);have O1b:=Lh (O1.out.call hb2);have L2:Hid (Blk W2 W1.heap.size 105 #[.int .i64 2,.slice none 0 0]):=Lh (by rw [← hW2]; exact (Blk.new _ _ _).alloc _);have O2:Hid (Blk W2 (W1.heap.size+1) 31 #[.int .u8 5,.int .i64 2,.int .i64 0,.int .u8 1,.slice (some ⟨W1.heap.size,0,none⟩) 1 1,.slice none 0 0,.slice none 0 0,.slice none 0 0]):=Lh (by rw [← hW2]; have:=Blk.new (W1.alloc (.cells #[.int .i64 2,.slice none 0 0] 105)) 31 #[.int .u8 5,.int .i64 2,.int .i64 0,.int .u8 1,.slice (some ⟨W1.heap.size,0,none⟩) 1 1,.slice none 0 0,.slice none 0 0,.slice none 0 0]; rwa [World.size_alloc] at this);rw [hW2]
 obtain ⟨g2,hg2⟩:∃ g,W1.heap.size=g:=⟨_,rfl⟩
 rw [hg2] at L2 O2 ⊢;clear hW2 hb2 hg2 S1 L1 O1;have tok:True:=trivial
 go_upto_region 4 with (first
  | (have tok2:=tok; go_at_call 54; (refine (Zb6 2 _).mono ?_); clear tok tok2; rintro e1 w3 ⟨rfl,k3⟩)
  | (go_at_call 54; (refine (Zb6 0 _).mono ?_); rintro e1 w4 ⟨rfl,k4⟩))
 obtain ⟨W3,hW3⟩:∃ W3,(w4.alloc (.cells #[.int .u8 2,.int .u8 0,.int .u8 0,.int .i32 0,.int .i64 2,.slice none 0 0,.int .u8 2,.int .u8 0,.int .u8 0,.int .i32 0,.int .i64 0,.slice none 0 0] 65)).alloc (.cells #[.int .u8 5,.int .u8 1,.int .u8 0,.int .i32 0,.int .i64 0,.slice (some ⟨w4.heap.size,0,none⟩) 2 2] 65)=W3:=⟨_,rfl⟩
 have hb3:Below w4.heap.size w4 W3:=by rw [← hW3]; exact ((Below.refl _ _).alloc (Nat.le_refl _) _).alloc (by simp) _
 have hb23:Below W2.heap.size W2 W3:=(k3.trans (k4.mono k3.size)).trans (hb3.mono (Nat.le_trans k3.size k4.size));have S3:=Lh (S2.out.call hb23);have L1c:=Lh (L1b.out.call hb23);have O1c:=Lh (O1b.out.call hb23);have L2c:=Lh (L2.out.call hb23);have O2c:=Lh (O2.out.call hb23);have L3:Hid (Blk W3 w4.heap.size 65 #[.int .u8 2,.int .u8 0,.int .u8 0,.int .i32 0,.int .i64 2,.slice none 0 0,.int .u8 2,.int .u8 0,.int .u8 0,.int .i32 0,.int .i64 0,.slice none 0 0]):=Lh (by rw [← hW3]; exact (Blk.new _ _ _).alloc _)
 have o3:Blk W3 (w4.heap.size+1) 65 #[.int .u8 5,.int .u8 1,.int .u8 0,.int .i32 0,.int .i64 0,.slice (some ⟨w4.heap.size,0,none⟩) 2 2]:=by rw [← hW3]; have:=Blk.new (w4.alloc (.cells #[.int .u8 2,.int .u8 0,.int .u8 0,.int .i32 0,.int .i64 2,.slice none 0 0,.int .u8 2,.int .u8 0,.int .u8 0,.int .i32 0,.int .i64 0,.slice none 0 0] 65)) 65 #[.int .u8 5,.int .u8 1,.int .u8 0,.int .i32 0,.int .i64 0,.slice (some ⟨w4.heap.size,0,none⟩) 2 2]; rwa [World.size_alloc] at this
 rw [hW3]
 obtain ⟨g3,hg3⟩:∃ g,w4.heap.size=g:=⟨_,rfl⟩
 rw [hg3] at L3 o3 ⊢;clear hW3 hb3 hb23 k3 k4 hg3 S2 L1b O1b L2 O2;have O3:=Lh o3;have hl3:=o3.lt;clear o3
 obtain ⟨p3,hp3⟩:∃ o,g3+1=o:=⟨_,rfl⟩
 rw [hp3] at O3 ⊢;have o3:=O3.out;clear hl3 hp3;have hl3:=o3.lt;obtain ⟨s0,s1,s2,s3,s4,s5⟩:=o3.c6;simp at s0 s1 s2 s3 s4 s5;clear o3
 go_cut [4] (fun s4 wx=>∃ g4 g5 g6 o4,s4 = .pointer (some ⟨o4,0,none⟩)∧Hid (Below W3.heap.size W3 wx∧Blk wx g4 65 #[.int .u8 2,.int .u8 0,.int .u8 0,.int .i32 0,.int .i64 2,.slice none 0 0]∧Blk wx g5 105 #[.int .i64 1,.slice (some ⟨g4,0,none⟩) 1 1]∧Blk wx g6 65 #[.int .u8 5,.int .u8 1,.int .u8 0,.int .i32 0,.int .i64 0,.slice (some ⟨g3,0,none⟩) 2 2]∧Blk wx o4 31 #[.int .u8 4,.int .i64 0,.int .i64 0,.int .u8 0,.slice (some ⟨g5,0,none⟩) 1 1,.slice (some ⟨g6,0,none⟩) 1 1,.slice none 0 0,.slice none 0 0]))
 case first =>
  have Q0:Hid (Sm4 W3 W3.drew []):=Lh ⟨(Below.refl _ _).drew,fun x hx=>by cases hx⟩;refine Za5 ?_;refine ZaV (fun w'=>W3.heap.size≤w'.heap.size∧∀ b o,b < W3.heap.size→w'.cell? ⟨b,o,none⟩=W3.cell? ⟨b,o,none⟩) [4] 8 (listed:=#[false,false,false,false,true,false,false,false,false]) (by kernel_rfl) (by kernel_rfl) (by kernel_rfl) (by kernel_rfl) (by kernel_rfl) (fun _ _ d _ _ h=>by cases d <;> exact h) Zi.drew (fun R hR=>?_);simp only [List.filterMap_cons,List.filterMap_nil,List.getElem?_toArray,List.getElem?_cons_succ,List.getElem?_cons_zero];refine Zc (v:=?_) rfl (fun w hSw=>?_) ?_
  rotate_left
  ·(try dsimp only at hSw); go_simp; all_goals with_reducible rfl
  (try simp only [Act.put,qA,qB,qC])
  refine Zco (hR _ ?_);clear hR R
  obtain ⟨wd,hwd⟩:∃ x,W3.drew=x:=⟨_,rfl⟩
  rw [hwd] at Q0 ⊢;clear hwd
  apply ZnJ (H:=fun g4 g5 g6 o4 x=>Hid (Sm4 W3 x [E4 g4,E5 g5 g4,E6 g6 g3,EO o4]))
  intro t0
  apply Zhp (H:=fun g4 g5 g6 x=>Hid (Sm4 W3 x [E4 g4,E5 g5 g4,E6 g6 g3]))
  intro t1
  apply ZnJ (H:=fun g4 g5 g6 o4 x=>Hid (Sm4 W3 x [E4 g4,E5 g5 g4,E6 g6 g3,EO o4]))
  intro t2
  apply Zhp (H:=fun g4 g5 g6 x=>Hid (Sm4 W3 x [E4 g4,E5 g5 g4,E6 g6 g3]))
  intro t3
  apply Zhp (H:=fun g4 g5 o4 x=>Hid (Sm4 W3 x [E4 g4,E5 g5 g4,EO o4]))
  intro t4
  apply Zfr (H:=fun g4 g5 x=>Hid (Sm4 W3 x [E4 g4,E5 g5 g4]))
  intro t5
  apply Zhp (H:=fun g4 g6 o4 x=>Hid (Sm4 W3 x [E4 g4,E6 g6 g3,EO o4]))
  intro t6
  apply Zfr (H:=fun g4 g6 x=>Hid (Sm4 W3 x [E4 g4,E6 g6 g3]))
  intro t7
  apply Zfr (H:=fun g4 o4 x=>Hid (Sm4 W3 x [E4 g4,EO o4]))
  intro t8
  apply Zgs (H:=fun g4 x=>Hid (Sm4 W3 x [E4 g4]))
  intro t9
  apply Zhp (H:=fun g4 g6 o4 x=>Hid (Sm4 W3 x [E4 g4,E6 g6 g3,EO o4]))
  intro t10
  apply Zfr (H:=fun g4 g6 x=>Hid (Sm4 W3 x [E4 g4,E6 g6 g3]))
  intro t11
  apply Zfr (H:=fun g4 o4 x=>Hid (Sm4 W3 x [E4 g4,EO o4]))
  intro t12
  apply Zgs (H:=fun g4 x=>Hid (Sm4 W3 x [E4 g4]))
  intro t13
  apply Zfr (H:=fun g6 o4 x=>Hid (Sm4 W3 x [E6 g6 g3,EO o4]))
  intro t14
  apply Zgs (H:=fun g6 x=>Hid (Sm4 W3 x [E6 g6 g3]))
  intro t15
  apply Zgs (H:=fun o4 x=>Hid (Sm4 W3 x [EO o4]))
  intro t16
  apply Zpw (H:=fun x=>Hid (Sm4 W3 x []))
  intro t17
  apply Zfr (H:=fun g6 o4 x=>Hid (Sm4 W3 x [E6 g6 g3,EO o4]))
  intro t18
  apply Zgs (H:=fun g6 x=>Hid (Sm4 W3 x [E6 g6 g3]))
  intro t19
  apply Zgs (H:=fun o4 x=>Hid (Sm4 W3 x [EO o4]))
  intro t20
  ·refine wpAnyH_ready (rs:=[0,5,7]) (by kernel_rfl) (by simp) ?_;refine .cons rfl (fun K hK=>?_) ?_
   ·go_simp
    (go_at_call 54; (refine (Zb6 2 _).mono ?_))
    rintro e y ⟨rfl,k1⟩;have Q1:=Lh (Q0.out.call k1)
    go_wp2_with fail
    refine hK.out _ _ (Sm4.sb Q1) (fun hHeld=>?_);clear hK K hHeld
    (try simp only [Act.put,qA,qB,qC])
    exact t17.out  _ (Lh (Q1.out.sub (by simp)))
   refine .cons rfl (fun K hK=>?_) ?_
   ·have Q1:=Lh (Q0.out.m6 (g3:=g3))
    go_simp
    refine hK.out _ _ (Sm4.sb Q1) (fun hHeld=>?_);clear hK K hHeld
    (try simp only [Act.put,qA,qB,qC])
    obtain ⟨g6,hg⟩:∃ g,wd.heap.size=g:=⟨_,rfl⟩
    rw [hg] at Q1 ⊢;exact t19.out g6 _ (Lh (Q1.out.sub (by simp)))
   refine .cons rfl (fun K hK=>?_) ?_
   ·have Q1:=Lh (Q0.out.mo)
    go_simp
    refine hK.out _ _ (Sm4.sb Q1) (fun hHeld=>?_);clear hK K hHeld
    (try simp only [Act.put,qA,qB,qC])
    obtain ⟨o4,hg⟩:∃ g,wd.heap.size=g:=⟨_,rfl⟩
    rw [hg] at Q1 ⊢;exact t20.out o4 _ (Lh (Q1.out.sub (by simp)))
   exact .nil
  ·intro o4 x Q;refine wpAnyH_ready (rs:=[0,5]) (by kernel_rfl) (by simp) ?_;refine .cons rfl (fun K hK=>?_) ?_
   ·go_simp
    (go_at_call 54; (refine (Zb6 2 _).mono ?_))
    rintro e y ⟨rfl,k1⟩;have Q1:=Lh (Q.out.call k1)
    go_wp2_with fail
    refine hK.out _ _ (Sm4.sb Q1) (fun hHeld=>?_);clear hK K hHeld
    (try simp only [Act.put,qA,qB,qC])
    exact t16.out o4 _ (Lh (Q1.out.sub (by simp)))
   refine .cons rfl (fun K hK=>?_) ?_
   ·have Q1:=Lh (Q.out.m6 (g3:=g3))
    go_simp
    refine hK.out _ _ (Sm4.sb Q1) (fun hHeld=>?_);clear hK K hHeld
    (try simp only [Act.put,qA,qB,qC])
    obtain ⟨g6,hg⟩:∃ g,x.heap.size=g:=⟨_,rfl⟩
    rw [hg] at Q1 ⊢;exact t18.out g6 o4 _ (Lh (Q1.out.sub (by simp)))
   exact .nil
  ·intro g6 x Q;refine wpAnyH_ready (rs:=[0,7]) (by kernel_rfl) (by simp) ?_;refine .cons rfl (fun K hK=>?_) ?_
   ·go_simp
    (go_at_call 54; (refine (Zb6 2 _).mono ?_))
    rintro e y ⟨rfl,k1⟩;have Q1:=Lh (Q.out.call k1)
    go_wp2_with fail
    refine hK.out _ _ (Sm4.sb Q1) (fun hHeld=>?_);clear hK K hHeld
    (try simp only [Act.put,qA,qB,qC])
    exact t15.out g6 _ (Lh (Q1.out.sub (by simp)))
   refine .cons rfl (fun K hK=>?_) ?_
   ·have Q1:=Lh (Q.out.mo)
    go_simp
    refine hK.out _ _ (Sm4.sb Q1) (fun hHeld=>?_);clear hK K hHeld
    (try simp only [Act.put,qA,qB,qC])
    obtain ⟨o4,hg⟩:∃ g,x.heap.size=g:=⟨_,rfl⟩
    rw [hg] at Q1 ⊢;exact t18.out g6 o4 _ (Lh (Q1.out.sub (by simp)))
   exact .nil
  ·intro g6 o4 x Q;refine wpAnyH_ready (rs:=[0]) (by kernel_rfl) (by simp) ?_;refine .cons rfl (fun K hK=>?_) ?_
   ·go_simp
    (go_at_call 54; (refine (Zb6 2 _).mono ?_))
    rintro e y ⟨rfl,k1⟩;have Q1:=Lh (Q.out.call k1)
    go_wp2_with fail
    refine hK.out _ _ (Sm4.sb Q1) (fun hHeld=>?_);clear hK K hHeld
    (try simp only [Act.put,qA,qB,qC])
    exact t14.out g6 o4 _ (Lh (Q1.out.sub (by simp)))
   exact .nil
  ·intro x Q;refine wpAnyH_ready (rs:=[1,5,7]) (by kernel_rfl) (by simp) ?_;refine .cons rfl (fun K hK=>?_) ?_
   ·have Q1:=Lh (Q.out.m4)
    go_simp
    refine hK.out _ _ (Sm4.sb Q1) (fun hHeld=>?_);clear hK K hHeld
    (try simp only [Act.put,qA,qB,qC])
    obtain ⟨g4,hg⟩:∃ g,x.heap.size=g:=⟨_,rfl⟩
    rw [hg] at Q1 ⊢;exact t13.out g4 _ (Lh (Q1.out.sub (by simp)))
   refine .cons rfl (fun K hK=>?_) ?_
   ·have Q1:=Lh (Q.out.m6 (g3:=g3))
    go_simp
    refine hK.out _ _ (Sm4.sb Q1) (fun hHeld=>?_);clear hK K hHeld
    (try simp only [Act.put,qA,qB,qC])
    obtain ⟨g6,hg⟩:∃ g,x.heap.size=g:=⟨_,rfl⟩
    rw [hg] at Q1 ⊢;exact t15.out g6 _ (Lh (Q1.out.sub (by simp)))
   refine .cons rfl (fun K hK=>?_) ?_
   ·have Q1:=Lh (Q.out.mo)
    go_simp
    refine hK.out _ _ (Sm4.sb Q1) (fun hHeld=>?_);clear hK K hHeld
    (try simp only [Act.put,qA,qB,qC])
    obtain ⟨o4,hg⟩:∃ g,x.heap.size=g:=⟨_,rfl⟩
    rw [hg] at Q1 ⊢;exact t16.out o4 _ (Lh (Q1.out.sub (by simp)))
   exact .nil
  ·intro o4 x Q;refine wpAnyH_ready (rs:=[1,5]) (by kernel_rfl) (by simp) ?_;refine .cons rfl (fun K hK=>?_) ?_
   ·have Q1:=Lh (Q.out.m4)
    go_simp
    refine hK.out _ _ (Sm4.sb Q1) (fun hHeld=>?_);clear hK K hHeld
    (try simp only [Act.put,qA,qB,qC])
    obtain ⟨g4,hg⟩:∃ g,x.heap.size=g:=⟨_,rfl⟩
    rw [hg] at Q1 ⊢;exact t12.out g4 o4 _ (Lh (Q1.out.sub (by simp)))
   refine .cons rfl (fun K hK=>?_) ?_
   ·have Q1:=Lh (Q.out.m6 (g3:=g3))
    go_simp
    refine hK.out _ _ (Sm4.sb Q1) (fun hHeld=>?_);clear hK K hHeld
    (try simp only [Act.put,qA,qB,qC])
    obtain ⟨g6,hg⟩:∃ g,x.heap.size=g:=⟨_,rfl⟩
    rw [hg] at Q1 ⊢;exact t14.out g6 o4 _ (Lh (Q1.out.sub (by simp)))
   exact .nil
  ·intro g6 x Q;refine wpAnyH_ready (rs:=[1,7]) (by kernel_rfl) (by simp) ?_;refine .cons rfl (fun K hK=>?_) ?_
   ·have Q1:=Lh (Q.out.m4)
    go_simp
    refine hK.out _ _ (Sm4.sb Q1) (fun hHeld=>?_);clear hK K hHeld
    (try simp only [Act.put,qA,qB,qC])
    obtain ⟨g4,hg⟩:∃ g,x.heap.size=g:=⟨_,rfl⟩
    rw [hg] at Q1 ⊢;exact t11.out g4 g6 _ (Lh (Q1.out.sub (by simp)))
   refine .cons rfl (fun K hK=>?_) ?_
   ·have Q1:=Lh (Q.out.mo)
    go_simp
    refine hK.out _ _ (Sm4.sb Q1) (fun hHeld=>?_);clear hK K hHeld
    (try simp only [Act.put,qA,qB,qC])
    obtain ⟨o4,hg⟩:∃ g,x.heap.size=g:=⟨_,rfl⟩
    rw [hg] at Q1 ⊢;exact t14.out g6 o4 _ (Lh (Q1.out.sub (by simp)))
   exact .nil
  ·intro g6 o4 x Q;refine wpAnyH_ready (rs:=[1]) (by kernel_rfl) (by simp) ?_;refine .cons rfl (fun K hK=>?_) ?_
   ·have Q1:=Lh (Q.out.m4)
    go_simp
    refine hK.out _ _ (Sm4.sb Q1) (fun hHeld=>?_);clear hK K hHeld
    (try simp only [Act.put,qA,qB,qC])
    obtain ⟨g4,hg⟩:∃ g,x.heap.size=g:=⟨_,rfl⟩
    rw [hg] at Q1 ⊢;exact t10.out g4 g6 o4 _ (Lh (Q1.out.sub (by simp)))
   exact .nil
  ·intro g4 x Q;refine wpAnyH_ready (rs:=[2,5,7]) (by kernel_rfl) (by simp) ?_;refine .cons rfl (fun K hK=>?_) ?_
   ·go_simp
    refine hK.out _ _ (Sm4.sb Q) (fun hHeld=>?_);clear hK K hHeld
    (try simp only [Act.put,qA,qB,qC])
    exact t9.out g4 _ (Lh (Q.out.sub (by simp)))
   refine .cons rfl (fun K hK=>?_) ?_
   ·have Q1:=Lh (Q.out.m6 (g3:=g3))
    go_simp
    refine hK.out _ _ (Sm4.sb Q1) (fun hHeld=>?_);clear hK K hHeld
    (try simp only [Act.put,qA,qB,qC])
    obtain ⟨g6,hg⟩:∃ g,x.heap.size=g:=⟨_,rfl⟩
    rw [hg] at Q1 ⊢;exact t11.out g4 g6 _ (Lh (Q1.out.sub (by simp)))
   refine .cons rfl (fun K hK=>?_) ?_
   ·have Q1:=Lh (Q.out.mo)
    go_simp
    refine hK.out _ _ (Sm4.sb Q1) (fun hHeld=>?_);clear hK K hHeld
    (try simp only [Act.put,qA,qB,qC])
    obtain ⟨o4,hg⟩:∃ g,x.heap.size=g:=⟨_,rfl⟩
    rw [hg] at Q1 ⊢;exact t12.out g4 o4 _ (Lh (Q1.out.sub (by simp)))
   exact .nil
  ·intro g4 o4 x Q;refine wpAnyH_ready (rs:=[2,5]) (by kernel_rfl) (by simp) ?_;refine .cons rfl (fun K hK=>?_) ?_
   ·go_simp
    refine hK.out _ _ (Sm4.sb Q) (fun hHeld=>?_);clear hK K hHeld
    (try simp only [Act.put,qA,qB,qC])
    exact t8.out g4 o4 _ (Lh (Q.out.sub (by simp)))
   refine .cons rfl (fun K hK=>?_) ?_
   ·have Q1:=Lh (Q.out.m6 (g3:=g3))
    go_simp
    refine hK.out _ _ (Sm4.sb Q1) (fun hHeld=>?_);clear hK K hHeld
    (try simp only [Act.put,qA,qB,qC])
    obtain ⟨g6,hg⟩:∃ g,x.heap.size=g:=⟨_,rfl⟩
    rw [hg] at Q1 ⊢;exact t10.out g4 g6 o4 _ (Lh (Q1.out.sub (by simp)))
   exact .nil
  ·intro g4 g6 x Q;refine wpAnyH_ready (rs:=[2,7]) (by kernel_rfl) (by simp) ?_;refine .cons rfl (fun K hK=>?_) ?_
   ·go_simp
    refine hK.out _ _ (Sm4.sb Q) (fun hHeld=>?_);clear hK K hHeld
    (try simp only [Act.put,qA,qB,qC])
    exact t7.out g4 g6 _ (Lh (Q.out.sub (by simp)))
   refine .cons rfl (fun K hK=>?_) ?_
   ·have Q1:=Lh (Q.out.mo)
    go_simp
    refine hK.out _ _ (Sm4.sb Q1) (fun hHeld=>?_);clear hK K hHeld
    (try simp only [Act.put,qA,qB,qC])
    obtain ⟨o4,hg⟩:∃ g,x.heap.size=g:=⟨_,rfl⟩
    rw [hg] at Q1 ⊢;exact t10.out g4 g6 o4 _ (Lh (Q1.out.sub (by simp)))
   exact .nil
  ·intro g4 g6 o4 x Q;refine wpAnyH_ready (rs:=[2]) (by kernel_rfl) (by simp) ?_;refine .cons rfl (fun K hK=>?_) ?_
   ·go_simp
    refine hK.out _ _ (Sm4.sb Q) (fun hHeld=>?_);clear hK K hHeld
    (try simp only [Act.put,qA,qB,qC])
    exact t6.out g4 g6 o4 _ (Lh (Q.out.sub (by simp)))
   exact .nil
  ·intro g4 x Q;refine wpAnyH_ready (rs:=[3,5,7]) (by kernel_rfl) (by simp) ?_;refine .cons rfl (fun K hK=>?_) ?_
   ·have Q1:=Lh (Q.out.m5 (g4:=g4))
    go_simp
    refine hK.out _ _ (Sm4.sb Q1) (fun hHeld=>?_);clear hK K hHeld
    (try simp only [Act.put,qA,qB,qC])
    obtain ⟨g5,hg⟩:∃ g,x.heap.size=g:=⟨_,rfl⟩
    rw [hg] at Q1 ⊢;exact t5.out g4 g5 _ (Lh (Q1.out.sub (by simp)))
   refine .cons rfl (fun K hK=>?_) ?_
   ·have Q1:=Lh (Q.out.m6 (g3:=g3))
    go_simp
    refine hK.out _ _ (Sm4.sb Q1) (fun hHeld=>?_);clear hK K hHeld
    (try simp only [Act.put,qA,qB,qC])
    obtain ⟨g6,hg⟩:∃ g,x.heap.size=g:=⟨_,rfl⟩
    rw [hg] at Q1 ⊢;exact t7.out g4 g6 _ (Lh (Q1.out.sub (by simp)))
   refine .cons rfl (fun K hK=>?_) ?_
   ·have Q1:=Lh (Q.out.mo)
    go_simp
    refine hK.out _ _ (Sm4.sb Q1) (fun hHeld=>?_);clear hK K hHeld
    (try simp only [Act.put,qA,qB,qC])
    obtain ⟨o4,hg⟩:∃ g,x.heap.size=g:=⟨_,rfl⟩
    rw [hg] at Q1 ⊢;exact t8.out g4 o4 _ (Lh (Q1.out.sub (by simp)))
   exact .nil
  ·intro g4 o4 x Q;refine wpAnyH_ready (rs:=[3,5]) (by kernel_rfl) (by simp) ?_;refine .cons rfl (fun K hK=>?_) ?_
   ·have Q1:=Lh (Q.out.m5 (g4:=g4))
    go_simp
    refine hK.out _ _ (Sm4.sb Q1) (fun hHeld=>?_);clear hK K hHeld
    (try simp only [Act.put,qA,qB,qC])
    obtain ⟨g5,hg⟩:∃ g,x.heap.size=g:=⟨_,rfl⟩
    rw [hg] at Q1 ⊢;exact t4.out g4 g5 o4 _ (Lh (Q1.out.sub (by simp)))
   refine .cons rfl (fun K hK=>?_) ?_
   ·have Q1:=Lh (Q.out.m6 (g3:=g3))
    go_simp
    refine hK.out _ _ (Sm4.sb Q1) (fun hHeld=>?_);clear hK K hHeld
    (try simp only [Act.put,qA,qB,qC])
    obtain ⟨g6,hg⟩:∃ g,x.heap.size=g:=⟨_,rfl⟩
    rw [hg] at Q1 ⊢;exact t6.out g4 g6 o4 _ (Lh (Q1.out.sub (by simp)))
   exact .nil
  ·intro g4 g6 x Q;refine wpAnyH_ready (rs:=[3,7]) (by kernel_rfl) (by simp) ?_;refine .cons rfl (fun K hK=>?_) ?_
   ·have Q1:=Lh (Q.out.m5 (g4:=g4))
    go_simp
    refine hK.out _ _ (Sm4.sb Q1) (fun hHeld=>?_);clear hK K hHeld
    (try simp only [Act.put,qA,qB,qC])
    obtain ⟨g5,hg⟩:∃ g,x.heap.size=g:=⟨_,rfl⟩
    rw [hg] at Q1 ⊢;exact t3.out g4 g5 g6 _ (Lh (Q1.out.sub (by simp)))
   refine .cons rfl (fun K hK=>?_) ?_
   ·have Q1:=Lh (Q.out.mo)
    go_simp
    refine hK.out _ _ (Sm4.sb Q1) (fun hHeld=>?_);clear hK K hHeld
    (try simp only [Act.put,qA,qB,qC])
    obtain ⟨o4,hg⟩:∃ g,x.heap.size=g:=⟨_,rfl⟩
    rw [hg] at Q1 ⊢;exact t6.out g4 g6 o4 _ (Lh (Q1.out.sub (by simp)))
   exact .nil
  ·intro g4 g6 o4 x Q;refine wpAnyH_ready (rs:=[3]) (by kernel_rfl) (by simp) ?_;refine .cons rfl (fun K hK=>?_) ?_
   ·have Q1:=Lh (Q.out.m5 (g4:=g4))
    go_simp
    refine hK.out _ _ (Sm4.sb Q1) (fun hHeld=>?_);clear hK K hHeld
    (try simp only [Act.put,qA,qB,qC])
    obtain ⟨g5,hg⟩:∃ g,x.heap.size=g:=⟨_,rfl⟩
    rw [hg] at Q1 ⊢;exact t2.out g4 g5 g6 o4 _ (Lh (Q1.out.sub (by simp)))
   exact .nil
  ·intro g4 g5 x Q;refine wpAnyH_ready (rs:=[5,7]) (by kernel_rfl) (by simp) ?_;refine .cons rfl (fun K hK=>?_) ?_
   ·have Q1:=Lh (Q.out.m6 (g3:=g3))
    go_simp
    refine hK.out _ _ (Sm4.sb Q1) (fun hHeld=>?_);clear hK K hHeld
    (try simp only [Act.put,qA,qB,qC])
    obtain ⟨g6,hg⟩:∃ g,x.heap.size=g:=⟨_,rfl⟩
    rw [hg] at Q1 ⊢;exact t3.out g4 g5 g6 _ (Lh (Q1.out.sub (by simp)))
   refine .cons rfl (fun K hK=>?_) ?_
   ·have Q1:=Lh (Q.out.mo)
    go_simp
    refine hK.out _ _ (Sm4.sb Q1) (fun hHeld=>?_);clear hK K hHeld
    (try simp only [Act.put,qA,qB,qC])
    obtain ⟨o4,hg⟩:∃ g,x.heap.size=g:=⟨_,rfl⟩
    rw [hg] at Q1 ⊢;exact t4.out g4 g5 o4 _ (Lh (Q1.out.sub (by simp)))
   exact .nil
  ·intro g4 g5 o4 x Q;refine wpAnyH_ready (rs:=[5]) (by kernel_rfl) (by simp) ?_;refine .cons rfl (fun K hK=>?_) ?_
   ·have Q1:=Lh (Q.out.m6 (g3:=g3))
    go_simp
    refine hK.out _ _ (Sm4.sb Q1) (fun hHeld=>?_);clear hK K hHeld
    (try simp only [Act.put,qA,qB,qC])
    obtain ⟨g6,hg⟩:∃ g,x.heap.size=g:=⟨_,rfl⟩
    rw [hg] at Q1 ⊢;exact t2.out g4 g5 g6 o4 _ (Lh (Q1.out.sub (by simp)))
   exact .nil
  ·intro g4 g5 g6 x Q;refine wpAnyH_ready (rs:=[6,7]) (by kernel_rfl) (by simp) ?_;refine .cons rfl (fun K hK=>?_) ?_
   ·go_simp
    refine hK.out _ _ (Sm4.sb Q) (fun hHeld=>?_);clear hK K hHeld
    (try simp only [Act.put,qA,qB,qC])
    exact t1.out g4 g5 g6 _ (Lh (Q.out.sub (by simp)))
   refine .cons rfl (fun K hK=>?_) ?_
   ·have Q1:=Lh (Q.out.mo)
    go_simp
    refine hK.out _ _ (Sm4.sb Q1) (fun hHeld=>?_);clear hK K hHeld
    (try simp only [Act.put,qA,qB,qC])
    obtain ⟨o4,hg⟩:∃ g,x.heap.size=g:=⟨_,rfl⟩
    rw [hg] at Q1 ⊢;exact t2.out g4 g5 g6 o4 _ (Lh (Q1.out.sub (by simp)))
   exact .nil
  ·intro g4 g5 g6 o4 x Q;refine wpAnyH_ready (rs:=[6]) (by kernel_rfl) (by simp) ?_;refine .cons rfl (fun K hK=>?_) ?_
   ·go_simp
    refine hK.out _ _ (Sm4.sb Q) (fun hHeld=>?_);clear hK K hHeld
    (try simp only [Act.put,qA,qB,qC])
    exact t0.out g4 g5 g6 o4 _ (Lh (Q.out.sub (by simp)))
   exact .nil
  ·intro g4 g5 g6 x Q;refine wpAnyH_ready (rs:=[7]) (by kernel_rfl) (by simp) ?_;refine .cons rfl (fun K hK=>?_) ?_
   ·have Q1:=Lh (Q.out.mo)
    go_simp
    refine hK.out _ _ (Sm4.sb Q1) (fun hHeld=>?_);clear hK K hHeld
    (try simp only [Act.put,qA,qB,qC])
    obtain ⟨o4,hg⟩:∃ g,x.heap.size=g:=⟨_,rfl⟩
    rw [hg] at Q1 ⊢;exact t0.out g4 g5 g6 o4 _ (Lh (Q1.out.sub (by simp)))
   exact .nil
  ·intro g4 g5 g6 o4 x Q;refine wpAnyH_ready (rs:=[8]) (by kernel_rfl) (by simp) ?_;refine .cons rfl (fun K hK=>?_) ?_
   ·have bb:=(Q.out.blks (EO o4) (by simp)).2;simp only [EO] at bb;have hlb:=bb.lt;obtain ⟨f0,f1,f2,f3,f4,f5,f6,f7⟩:=bb.z8;obtain ⟨d0,d1,d2,d3,d4,d5,d6,d7⟩:=bb.c8;simp at d0 d1 d2 d3 d4 d5 d6 d7;clear bb
    go_simp
    have HF:=Lh (Q.out.fin (g3:=g3) (g4:=g4) (g5:=g5) (g6:=g6) (o4:=o4) (by simp) (by simp) (by simp) (by simp) rfl);refine hK.out _ _ (Sm4.sb8 HF) (fun hHeld=>?_);clear hK K hHeld
    (try simp only [Act.put,qA,qB,qC])
    refine wpAnyH_done (by kernel_rfl) ?_ _
    go_wp2
    go_meet;exact ⟨g4,g5,g6,o4,rfl,HF⟩
   exact .nil
 case rest =>
  obtain ⟨g4,g5,g6,o4,rfl,HC⟩:=hcut;have SB:Hid (SmR w wc g1 g2 g3 g4 g5 g6):=Lh ⟨S3.out.bel.trans (HC.out.1.mono S3.out.bel.size),S3.out.res.call HC.out.1,⟨L1c.out.call HC.out.1,L2c.out.call HC.out.1,L3.out.call HC.out.1,HC.out.2.1,HC.out.2.2.1,HC.out.2.2.2.1⟩,O1c.out.call HC.out.1⟩;have b2:=O2c.out.call HC.out.1;have b4:=HC.out.2.2.2.2;have hl2:=b2.lt;have hl4:=b4.lt;obtain ⟨e0,e1,e2,e3,e4,e5,e6,e7⟩:=b2.c8;simp at e0 e1 e2 e3 e4 e5 e6 e7;obtain ⟨f0,f1,f2,f3,f4,f5,f6,f7⟩:=b4.c8;simp at f0 f1 f2 f3 f4 f5 f6 f7;clear b2 b4 s0 s1 s2 s3 s4 s5 hl3 S3 L1c O1c L2c O2c L3 O3
  go_upto_region 6 with fail
  obtain ⟨W5,hW5⟩:∃ W5,(wc.alloc (.cells (ZqN g2 g5 g6) 31)).alloc (.cells #[.int .u8 9,.int .i64 0,.int .i64 0,.int .u8 0,.slice none 0 0,.slice none 0 0,.slice none 0 0,.slice (some ⟨wc.heap.size,0,none⟩) 3 3] 31)=W5:=⟨_,rfl⟩
  have H5:=Lh (SB.out.two hW5);simp only [ZqN] at hW5;rw [hW5]
  obtain ⟨g7,hg7⟩:∃ g,wc.heap.size=g:=⟨_,rfl⟩
  rw [hg7] at H5 ⊢;clear hW5 hg7 SB HC e0 e1 e2 e3 e4 e5 e6 e7 f0 f1 f2 f3 f4 f5 f6 f7 hl2 hl4;have b1:=H5.out.1.o1;have b5:=H5.out.2.2;have hl1:=b1.lt;have hl5:=b5.lt;obtain ⟨e0,e1,e2,e3,e4,e5,e6,e7⟩:=b1.c8;simp at e0 e1 e2 e3 e4 e5 e6 e7;obtain ⟨f0,f1,f2,f3,f4,f5,f6,f7⟩:=b5.c8;simp at f0 f1 f2 f3 f4 f5 f6 f7;clear b1 b5
  go_upto_region 7 with fail
  obtain ⟨W6,hW6⟩:∃ W6,(W5.alloc (.cells (ZqO g1 g7) 31)).alloc (.cells #[.int .u8 10,.int .i64 0,.int .i64 0,.int .u8 0,.slice none 0 0,.slice none 0 0,.slice none 0 0,.slice (some ⟨W5.heap.size,0,none⟩) 2 2] 31)=W6:=⟨_,rfl⟩
  have H6:=Lh (H5.out.1.two hW6);have H7:=Lh (H5.out.2.1.call (Zhj hW6));simp only [ZqO] at hW6;rw [hW6]
  obtain ⟨g8,hg8⟩:∃ g,W5.heap.size=g:=⟨_,rfl⟩
  rw [hg8] at H6 ⊢;clear hW6 hg8 H5 e0 e1 e2 e3 e4 e5 e6 e7 f0 f1 f2 f3 f4 f5 f6 f7 hl1 hl5
  obtain ⟨p8,hp8⟩:∃ o,g8+1=o:=⟨_,rfl⟩
  rw [hp8] at H6 ⊢;clear hp8;have b6:=H6.out.2.2;have hl6:=b6.lt;obtain ⟨e0,e1,e2,e3,e4,e5,e6,e7⟩:=b6.c8;simp at e0 e1 e2 e3 e4 e5 e6 e7;have b0:=H6.out.1.res;have hl0:=b0.lt
  have hl01:w.heap.size < W6.heap.size+1:=by omega
  have hl02:w.heap.size < W6.heap.size+1+1:=by omega
  have hl03:w.heap.size < W6.heap.size+2:=by omega
  obtain ⟨f0,f1,f2,f3,f4,f5,f6,f7,f8,f9,f10⟩:=b0.z11;obtain ⟨d0,d1,d2,d3,d4,d5,d6,d7,d8,d9,d10⟩:=b0.c11;simp at d0 d1 d2 d3 d4 d5 d6 d7 d8 d9 d10;clear b6 b0
  go_wp2_with fail
  have HR:=Lh (SmR.last H6.out.1 H7.out H6.out.2.1 rfl rfl);refine bodyPost_ret (results_cell_row rfl _ _ w.heap.size _ _ (0,0) _ rfl HR.out.1 Tryz.underlying34 rfl Zg4) rfl ?_;exact ⟨_,_,_,_,_,_,_,_,_,_,_,rfl,Lh HR.out.2.1,Lh HR.out.2.2⟩
end
end Go.Proofs.YtjndhfcfcedheaaGreatDoor
