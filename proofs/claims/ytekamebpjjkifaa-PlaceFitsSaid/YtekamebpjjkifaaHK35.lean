/- Texts that belong together, joined: what each one holds is told ahead of it. -/
import Derived.Test.YtekamebpjjkifaaHK14
import Derived.Test.YtekamebpjjkifaaHK15
import Derived.Test.YtekamebpjjkifaaHK34
import Derived.Carry
/- The channels between branches, in the program: Between, walked. -/
namespace Go.Proofs.Ytekamebpjjkifaa
open Go.RowKit Go.Maps
attribute [local go_sem] Oper.semAt_some
set_option linter.unusedSimpArgs false
set_option linter.unusedVariables false

/-- The cells of channels between branches. -/
def tripC (l : List (Int × Int × Int)) : List Value := l.flatMap fun x => [.int .i64 x.1, .int .i64 x.2.1, .int .i64 x.2.2]
/-- What Between is to answer. -/
def betweenQ (k : KK) : Int × List (Int × Int × Int) := if mayK k = true then (match betweenK k with | none => (400, []) | some l => (0, l)) else (2, [])
/-- What Between answers. -/
def RetBt (q : Int × List (Int × Int × Int)) (w : World) (e : Ending) (w' : World) : Prop :=
  Below w.heap.size w w' ∧ ∃ (A : Option Addr) (c : Nat), e = .returned (.tuple #[.slice A q.2.length c, .int .i64 q.1]) ∧ Reads w' w'.heap.size 3 A q.2.length (tripC q.2)
theorem results_cell_cell {fn : Func} {p q : Tmp} {ty tz : TypeId} (h : fn.results = #[.cell p ty, .cell q tz]) (tmps : Array Value) (P : Program) (w : World) {a b : Addr} {v1 v2 : Value} (hp : tmps.getD p undef = .pointer (some a)) (hq : tmps.getD q undef = .pointer (some b))
    (h1 : (loadVar ty a).run P w = .ok v1 w) (h2 : (loadVar tz b).run P w = .ok v2 w) : (results fn tmps).run P w = .ok (.tuple #[v1, v2]) w := by
  have hp' : tmps[p]?.getD undef = .pointer (some a) := by simpa using hp
  have hq' : tmps[q]?.getD undef = .pointer (some b) := by simpa using hq
  simp only [results, h]
  simp [Sem.run_bind, Result.andThen, hp', hq', asAddr, h1, h2]
/-- The results of Between, read off their boxes. -/
theorem bt_loads {w : World} {a b : Nat} {v : Value} {n : Int} (h1 : Blk w a 42 #[v]) (h2 : Blk w b 43 #[.int .i64 n]) :
    (loadVar 42 ⟨a, 0, none⟩).run Try.prog w = .ok v w ∧ (loadVar 43 ⟨b, 0, none⟩).run Try.prog w = .ok (.int .i64 n) w := by
  have c1 := h1.cell 0
  have c2 := h2.cell 0
  simp at c1 c2
  constructor
  · simp [go_sem, Try.underlying42, c1]
  · simp [go_sem, Try.underlying43, c2]
set_option maxRecDepth 100000 in
set_option maxHeartbeats 8000000 in
theorem pBetween_no (k : KK) (B : Nat) (w : World) (hk : k.In w B) (hB : B ≤ w.heap.size) (hcap : k.procs.length ≤ k.cp) (hm : mayK k = false) :
    Calls Try.prog 8 #[.agg k.flat] w (RetBt (2, []) w) := by
  obtain ⟨W0, hW0⟩ : ∃ W, ((w.alloc (.cells k.flat 34)).alloc (.cells #[.slice none 0 0] 42)).alloc (.cells #[.int .i64 0] 43) = W := ⟨_, rfl⟩
  obtain ⟨l1, l2, l3, l4⟩ := lay3 w k.flat #[.slice none 0 0] #[.int .i64 0] 34 42 43
  rw [hW0] at l1 l2 l3 l4
  have HM : Hid (∀ w1 : World, Below w.heap.size w w1 → Calls Try.prog 20 #[.agg k.flat] w1 (RetV (.bool false) w1)) := Lib.hid fun w1 hb => by
    have := kMay16 k B w1 (hk.below (hb.mono hB)) (Nat.le_trans hB hb.size) hcap
    rwa [hm] at this
  have K0 := Lib.hid l1
  have L2 := Lib.hid l2
  have L3 := Lib.hid l3
  have L4 := Lib.hid l4
  simp only [KK.flat] at l2 hW0 HM ⊢
  have e0 := l2.cell 0
  have e1 := l2.cell 1
  have e2 := l2.cell 2
  have e3 := l2.cell 3
  have e4 := l2.cell 4
  have e5 := l2.cell 5
  have e6 := l2.cell 6
  have e7 := l2.cell 7
  have e8 := l2.cell 8
  have e9 := l2.cell 9
  have e10 := l2.cell 10
  simp at e0 e1 e2 e3 e4 e5 e6 e7 e8 e9 e10
  clear l1 l2 l3 l4 hk hm
  go_enter Try.func8, Try.ntmps8
  go_wp2_with (first
    | (go_at_call 20; (with_reducible refine (HM.out _ K0.out).mono ?_); rintro e1 w1 ⟨rfl, hb1⟩
       have b2 := (L3.out.call hb1)
       have b3 := (L4.out.call hb1)
       have f2 := b2.frozen 0
       have f3 := b3.frozen 0
       have d2 := b2.cell 0
       have d3 := b3.cell 0
       simp at d2 d3))
  have b2' : Blk ((w1.setCell ⟨w.heap.size + 1, 0, none⟩ (.slice none 0 0)).setCell ⟨w.heap.size + 1 + 1, 0, none⟩ (.int .i64 2)) (w.heap.size + 1) 42 #[.slice none 0 0] := (b2.set_ 0 (.slice none 0 0)).far (by simp) _
  have b3' : Blk ((w1.setCell ⟨w.heap.size + 1, 0, none⟩ (.slice none 0 0)).setCell ⟨w.heap.size + 1 + 1, 0, none⟩ (.int .i64 2)) (w.heap.size + 1 + 1) 43 #[.int .i64 2] := (b3.far (by simp) (.slice none 0 0)).set_ 0 (.int .i64 2)
  obtain ⟨r1, r2⟩ := bt_loads b2' b3'
  refine bodyPost_ret (v := .tuple #[.slice none 0 0, .int .i64 2]) (results_cell_cell rfl _ _ _ rfl rfl r1 r2) rfl ?_
  exact ⟨((K0.out.trans (hb1.mono K0.out.size)).setCell (by simp) _).setCell (by simp; omega) _, none, 0, rfl, ⟨rfl, fun h => absurd h (by simp)⟩⟩
theorem cells_of_cell {w : World} {a : Addr} {u : Value} (h : w.cell? a = some u) {o : Obj} (ho : w.heap[a.block]? = some o) : o.isCells = true := by
  unfold World.cell? at h
  rw [ho] at h
  cases o <;> simp_all [Obj.isCells]
theorem Reads.grown_other {w w' : World} {B size n r : Nat} {A : Option Addr} {xs : List Value} (h : Reads w B size A n xs) (hg : w.grownBy w' (some r)) {o : Obj} (ho : w.heap[r]? = some o) (hc : o.isCells = false) : Reads w' B size A n xs := by
  refine ⟨h.1, fun hn => ?_⟩
  obtain ⟨ad, h1, h2, h3⟩ := h.2 hn
  refine ⟨ad, h1, h2, fun j u hu => hg.cell (h3 j u hu) fun e => ?_⟩
  injection e with e
  have := cells_of_cell (h3 j u hu) (by rw [e]; exact ho)
  rw [hc] at this
  cases this
theorem Reads.put_other {w : World} {B size n r : Nat} {A : Option Addr} {xs : List Value} (h : Reads w B size A n xs) {o : Obj} (ho : w.heap[r]? = some o) (hc : o.isCells = false) (o' : Obj) : Reads (w.putObj r o') B size A n xs := by
  refine ⟨h.1, fun hn => ?_⟩
  obtain ⟨ad, h1, h2, h3⟩ := h.2 hn
  refine ⟨ad, h1, h2, fun j u hu => ?_⟩
  have hne : (ad.add j).block ≠ r := fun e => by
    have := cells_of_cell (h3 j u hu) (by rw [e]; exact ho)
    rw [hc] at this
    cases this
  rw [World.cell?_of_block (w := w) (World.putObj_heap_other hne)]
  exact h3 j u hu
theorem MapF.obj {P : Program} {k e : TypeId} {α : Type} {ok : α → Prop} {key : α → Lit} {w : World} {b n : Nat} {f : α → Option (DataW Unit)} (h : MapF P k e ok key w b n f) : ∃ o, w.heap[b]? = some o ∧ o.isCells = false := by
  obtain ⟨D, ⟨es, clock, h1, -⟩, -⟩ := h
  exact ⟨_, h1, rfl⟩
theorem zero_int0 (w : World) : (zeroValue 3).run Try.prog w = .ok (.int .i64 0) w := by kernel_rfl
theorem branch_in {k : KK} {w : World} {B : Nat} (h : k.In w B) : ∀ p ∈ branchesK k, p.In w B := by
  intro p hp
  unfold branchesK at hp
  split at hp
  · obtain rfl := List.mem_singleton.1 hp
    exact h.2.2.1
  · exact h.2.2.1.part hp
theorem branch_len {k : KK} {w : World} {B : Nat} (h : k.In w B) : (branchesK k).length ≤ 140737488355328 := by
  unfold branchesK
  split
  · simp
  · exact h.2.2.1.one.1.2.2.2.2.2
theorem few_snoc {bs : List KP} {j : Nat} {x : KP} (hx : bs[j]? = some x) : (endsPs (bs.take j)).length + (endsP x).length = (endsPs (bs.take (j + 1))).length := by
  rw [endsPs_snoc hx, List.length_append]
/-- Between's boxes and its map. -/
structure BtS (w W : World) (k : KK) (bs : List KP) (r n B2 : Nat) (A : Option Addr) (f : Int × Bool → Option Nat) : Prop where
  bel : Below w.heap.size w W
  kb : Blk W w.heap.size 34 k.flat
  r1 : Blk W (w.heap.size + 1) 42 #[.slice none 0 0]
  r2 : Blk W (w.heap.size + 1 + 1) 43 #[.int .i64 0]
  r4 : Blk W (r + 1) 65 #[.map (some r)]
  mp : MapF Try.prog 71 3 (fun x : Int × Bool => i64ok x.1) endKey W r n (fun x => litO (f x))
  br : Reads W B2 8 A bs.length (kpsC bs)
  lo : w.heap.size + 3 ≤ r
  hi : B2 ≤ W.heap.size
  up : r + 2 ≤ B2
section
variable {w W W1 : World} {k : KK} {bs : List KP} {r n B2 : Nat} {A : Option Addr} {f : Int × Bool → Option Nat}
theorem BtS.deep (h : BtS w W k bs r n B2 A f) {C : Nat} (hC : B2 ≤ C) (hb : Below C W W1) : BtS w W1 k bs r n B2 A f := by
  have hlo := h.lo
  have hup := h.up
  exact ⟨h.bel.trans (hb.mono (by omega)), h.kb.below hb (by omega), h.r1.below hb (by omega), h.r2.below hb (by omega), h.r4.below hb (by omega), h.mp.deep (hb.block _ (by omega)), h.br.below (hb.mono hC), hlo, Nat.le_trans h.hi hb.size, hup⟩
theorem BtS.put (h : BtS w W k bs r n B2 A f) {n' : Nat} {f' : Int × Bool → Option Nat} (hg : W.grownBy W1 (some r)) (hm : MapF Try.prog 71 3 (fun x : Int × Bool => i64ok x.1) endKey W1 r n' (fun x => litO (f' x))) : BtS w W1 k bs r n' B2 A f' := by
  have hlo := h.lo
  obtain ⟨o, ho, hc⟩ := h.mp.obj
  exact ⟨h.bel.grown hg h.bel.size (fun q e => by injection e; omega), h.kb.grown hg (fun e => by injection e; omega), h.r1.grown hg (fun e => by injection e; omega), h.r2.grown hg (fun e => by injection e; omega), h.r4.grown hg (fun e => by injection e; omega), hm, h.br.grown_other hg ho hc, hlo, Nat.le_trans h.hi hg.size, h.up⟩
theorem BtS.congr (h : BtS w W k bs r n B2 A f) {g : Int × Bool → Option Nat} (hf : ∀ y, f y = g y) : BtS w W k bs r n B2 A g := by
  have : f = g := funext hf
  rw [← this]
  exact h
theorem BtS.call (h : BtS w W k bs r n B2 A f) (hb : Below W.heap.size W W1) : BtS w W1 k bs r n B2 A f := h.deep h.hi hb
end
theorem MapF.mapObj {P : Program} {k e : TypeId} {α : Type} {ok : α → Prop} {key : α → Lit} {w : World} {b n : Nat} {f : α → Option (DataW Unit)} (h : MapF P k e ok key w b n f) : ∃ es c, w.heap[b]? = some (.map es c) := by
  obtain ⟨D, ⟨es, clock, h1, -⟩, -⟩ := h
  exact ⟨_, _, h1⟩
theorem Marks.set {B : Nat} {ds : List Deferred} {w : World} (h : Marks B ds w) {p : Addr} (hp : p.block < B) (u : Value) : Marks B ds (w.setCell p u) :=
  h.mono fun D hB hD => (Below.heap_setCell w p u D (by omega)).trans hD
theorem Marks.grown_map {B r : Nat} {ds : List Deferred} {w w' : World} (h : Marks B ds w) (hg : w.grownBy w' (some r)) {es : Array MapEntry} {c : Nat} (hr : w.heap[r]? = some (.map es c)) : Marks B ds w' :=
  h.mono fun D hB hD => (hg.block D (Array.getElem?_eq_some_iff.1 hD).1 (fun e => by injection e with e; rw [e, hr] at hD; cases hD)).trans hD
theorem bt_leave {w W : World} {F : Fence} {n : Nat} {fn : Func} {tmps : Array Value} {ds : List Deferred} {A : Option Addr} {c : Nat} {q : Int × List (Int × Int × Int)} (hfn : fn.results = #[.cell 2 42, .cell 3 43]) (hm : Marks (w.heap.size + 3) ds W)
    (h2 : tmps.getD 2 undef = .pointer (some ⟨w.heap.size + 1, 0, none⟩)) (h3 : tmps.getD 3 undef = .pointer (some ⟨w.heap.size + 1 + 1, 0, none⟩)) (hb : Below w.heap.size w W) (b2 : Blk W (w.heap.size + 1) 42 #[.slice A q.2.length c]) (b3 : Blk W (w.heap.size + 1 + 1) 43 #[.int .i64 q.1])
    (hr : Reads W W.heap.size 3 A q.2.length (tripC q.2)) : LeavesInM F n Try.prog fn tmps (RetBt q w) ds .returning W := by
  refine leaves_marks (B := w.heap.size + 3) (fun W' => Below w.heap.size w W' ∧ Blk W' (w.heap.size + 1) 42 #[.slice A q.2.length c] ∧ Blk W' (w.heap.size + 1 + 1) 43 #[.int .i64 q.1] ∧ Reads W' W'.heap.size 3 A q.2.length (tripC q.2)) ?_ ?_ ds W hm ⟨hb, b2, b3, hr⟩
  · rintro D W' ⟨g1, g2, g3, g4⟩ hB hD
    refine ⟨g1.putObj (by omega) _, (World.putObj_heap_other (by omega)).trans g2, (World.putObj_heap_other (by omega)).trans g3, ?_⟩
    have hz : (W'.putObj D (.deferred none)).heap.size = W'.heap.size := by simp [World.putObj]
    rw [hz]
    exact g4.put_other hD rfl _
  · rintro W' ⟨g1, g2, g3, g4⟩
    obtain ⟨r1, r2⟩ := bt_loads g2 g3
    exact ⟨_, results_cell_cell hfn _ _ _ h2 h3 r1 r2, g1, A, c, rfl, g4⟩
theorem MapF.congr {P : Program} {k e : TypeId} {α : Type} {ok : α → Prop} {key : α → Lit} {w : World} {b n : Nat} {f g : α → Option (DataW Unit)} (h : MapF P k e ok key w b n f) (hf : ∀ y, f y = g y) : MapF P k e ok key w b n g := by
  have : f = g := funext hf
  rw [← this]
  exact h
theorem trip_info : (Try.prog.info? 57).map (fun i => (i.zero, i.size, i.bytes)) = some (some (.agg #[.int .i64 0, .int .i64 0, .int .i64 0]), 3, 24) := by kernel_rfl
theorem own_slice {w : World} {base e size n : Nat} {v : Value} {xs : List Value} (h : w.ownsRow base e size v n xs) : ∃ A c, v = .slice A n c := by
  rcases h.2 with ⟨rfl, rfl⟩ | ⟨g, cap, cur, rfl, -⟩
  · exact ⟨none, 0, rfl⟩
  · exact ⟨_, _, rfl⟩
theorem tripC_snoc (l : List (Int × Int × Int)) (a b c : Int) : tripC (l ++ [(a, b, c)]) = tripC l ++ (#[.int .i64 a, .int .i64 b, .int .i64 c] : Array Value).toList := by simp [tripC]
theorem rowC_n2 {o : Option Nat} {c : Nat} (h0 : c ≠ 0) (h1 : c ≠ 1) : rowC o none c = [] := by
  unfold rowC
  rw [if_neg h0, if_neg h1]
  cases o <;> rfl
theorem rowC_n1 {o : Option Nat} {c : Nat} (h0 : c ≠ 0) (h1 : c ≠ 1) : rowC none o c = [] := by
  unfold rowC
  rw [if_neg h0, if_neg h1]
theorem rowC_ss {i j : Nat} {c : Nat} (h0 : c ≠ 0) (h1 : c ≠ 1) : rowC (some i) (some j) c = if i ≠ j then [((c : Int), (i : Int), (j : Int))] else [] := by
  unfold rowC
  rw [if_neg h0, if_neg h1]
theorem Reads.far_set {w : World} {B size n c : Nat} {A : Option Addr} {xs : List Value} (h : Reads w B size A n xs) {p : Addr} (hp : ∀ k, (Value.slice A n c).ownBlock = some k → p.block ≠ k) (u : Value) : Reads (w.setCell p u) B size A n xs := by
  refine ⟨h.1, fun hn => ?_⟩
  obtain ⟨ad, h1, h2, h3⟩ := h.2 hn
  refine ⟨ad, h1, h2, fun j v hv => ?_⟩
  have hne : (ad.add j).block ≠ p.block := by
    rw [block_of_add]
    exact fun e => hp ad.block (by rw [h1]; rfl) e.symm
  rw [World.cell?_of_block (w := w) (Below.heap_setCell w p u _ hne)]
  exact h3 j v hv
/-- The list of channels so far. -/
structure BtL (wr W : World) (bs : List KP) (c : Nat) (v : Value) (l : List (Int × Int × Int)) : Prop where
  bel : Below wr.heap.size wr W
  eq : betweenN bs c = some l
  own : W.ownsRow wr.heap.size 57 3 v l.length (tripC l)
theorem BtL.same {wr W : World} {bs : List KP} {c : Nat} {v : Value} {l : List (Int × Int × Int)} (h : BtL wr W bs c v l) (hu : Unclash bs) (hr : rowC (usersL ((c : Int), true) 0 bs).head? (usersL ((c : Int), false) 0 bs).head? c = []) : BtL wr W bs (c + 1) v l := by
  refine ⟨h.bel, ?_, h.own⟩
  have := betweenN_snoc h.eq (betweenC_un (hu _) (hu _))
  rwa [hr, List.append_nil] at this
theorem BtL.app {wr W w' : World} {bs : List KP} {c : Nat} {v v' : Value} {l : List (Int × Int × Int)} {x y z : Int} (h : BtL wr W bs c v l) (hu : Unclash bs) (hr : rowC (usersL ((c : Int), true) 0 bs).head? (usersL ((c : Int), false) 0 bs).head? c = [(x, y, z)])
    (ho : w'.ownsRow wr.heap.size 57 3 v' (l.length + 1) (tripC l ++ (#[.int .i64 x, .int .i64 y, .int .i64 z] : Array Value).toList)) (hb : Below wr.heap.size (W.alloc (.cells #[.int .i64 x, .int .i64 y, .int .i64 z] 57)) w') : BtL wr w' bs (c + 1) v' (l ++ [(x, y, z)]) := by
  refine ⟨?_, ?_, ?_⟩
  · exact (h.bel.alloc h.bel.size _).trans hb
  · have := betweenN_snoc h.eq (betweenC_un (hu _) (hu _))
    rwa [hr] at this
  · rw [tripC_snoc, List.length_append]
    exact ho
/-- What stands between two ends of a branch. -/
structure BtI (w w6 : World) (k : KK) (bs : List KP) (r n B2 q j : Nat) (A : Option Addr) (ds : List Deferred) (pre : List (Int × Bool)) (W : World) : Prop where
  s : BtS w W k bs r (n + pre.length) B2 A (endF bs j pre)
  b5 : Blk W q 3 #[.int .i64 j]
  un : ∀ y ∈ pre, usersL y 0 (bs.take j) = []
  ms : Marks (w.heap.size + 3) ds W
  sz : w6.heap.size ≤ W.heap.size
/-- What stands where a clash was found. -/
structure BtX (w : World) (k : KK) (ds : List Deferred) (c : Code) (pre : List (Int × Bool)) (W : World) : Prop where
  c : c = .ret
  b : Below w.heap.size w W
  r1 : Blk W (w.heap.size + 1) 42 #[.slice none 0 0]
  r2 : Blk W (w.heap.size + 1 + 1) 43 #[.int .i64 400]
  ms : Marks (w.heap.size + 3) ds W
  bad : betweenK k = none
set_option maxRecDepth 100000 in
set_option maxHeartbeats 8000000 in
theorem pBetween_yes (k : KK) (B : Nat) (w : World) (hk : k.In w B) (hB : B ≤ w.heap.size) (hcap : k.procs.length ≤ k.cp) (hm : mayK k = true) :
    Calls Try.prog 8 #[.agg k.flat] w (RetBt (betweenQ k) w) := by
  obtain ⟨W0, hW0⟩ : ∃ W, ((w.alloc (.cells k.flat 34)).alloc (.cells #[.slice none 0 0] 42)).alloc (.cells #[.int .i64 0] 43) = W := ⟨_, rfl⟩
  obtain ⟨l1, l2, l3, l4⟩ := lay3 w k.flat #[.slice none 0 0] #[.int .i64 0] 34 42 43
  have hsz : W0.heap.size = w.heap.size + 3 := by rw [← hW0]; simp
  rw [hW0] at l1 l2 l3 l4
  have HM : Hid (∀ w1 : World, Below w.heap.size w w1 → Calls Try.prog 20 #[.agg k.flat] w1 (RetV (.bool true) w1)) := Lib.hid fun w1 hb => by
    have := kMay16 k B w1 (hk.below (hb.mono hB)) (Nat.le_trans hB hb.size) hcap
    rwa [hm] at this
  have HBC : Hid (∀ w1 : World, Below w.heap.size w w1 → Calls Try.prog 21 #[.agg k.flat] w1 (RetBr k w1)) := Lib.hid fun w1 hb => pBranches k B w1 (hk.below (hb.mono hB)) (Nat.le_trans hB hb.size)
  have HF := Lib.hid (mayF hm)
  have HKI := Lib.hid hk
  have hQ : betweenQ k = (match betweenK k with | none => (400, []) | some l => (0, l)) := by unfold betweenQ; rw [if_pos hm]
  have HQ := Lib.hid hQ
  generalize betweenQ k = Q at *
  have K0 := Lib.hid l1
  have L2 := Lib.hid l2
  have L3 := Lib.hid l3
  have L4 := Lib.hid l4
  have HSZ := Lib.hid hsz
  obtain ⟨kf, hkf⟩ : ∃ q, k.flat = q := ⟨_, rfl⟩
  simp only [KK.flat] at l2 HM HBC hW0 ⊢
  have e0 := l2.cell 0
  have e1 := l2.cell 1
  have e2 := l2.cell 2
  have e3 := l2.cell 3
  have e4 := l2.cell 4
  have e5 := l2.cell 5
  have e6 := l2.cell 6
  have e7 := l2.cell 7
  have e8 := l2.cell 8
  have e9 := l2.cell 9
  have e10 := l2.cell 10
  simp at e0 e1 e2 e3 e4 e5 e6 e7 e8 e9 e10
  clear l1 l2 l3 l4 hk hm hQ hsz hkf
  refine (callsIn_wide (n := 9)).1 ?_
  refine callsIn_of_wp_marks Try.func8 rfl trivial ?_ rfl
  simp only [Try.ntmps8, List.size_toArray, List.length_cons, List.length_nil, Nat.reduceAdd, Nat.reduceSub, Array.replicate_succ, Array.replicate_zero, List.push_toArray, List.append_toArray, List.nil_append, List.cons_append]
  refine wpIn_wide_of_wp ?_
  go_upto_region 3 with (first
    | (go_at_call 20; (with_reducible refine (HM.out _ K0.out).mono ?_); rintro e1 w1 ⟨rfl, hb1⟩))
  have K1 := Lib.hid (K0.out.trans (hb1.mono K0.out.size))
  have hr := hb1.size
  rw [HSZ.out] at hr
  have HLO := Lib.hid hr
  have L3' := Lib.hid (L3.out.call hb1)
  have L4' := Lib.hid (L4.out.call hb1)
  have L2' := Lib.hid (L2.out.call hb1)
  clear hW0 e0 e1 e2 e3 e4 e5 e6 e7 e8 e9 e10 hb1 L2 L3 L4 HM hr
  obtain ⟨W2, hW2⟩ : ∃ W, (w1.alloc (.map #[] 0)).alloc (.cells #[.map (some w1.heap.size)] 65) = W := ⟨_, rfl⟩
  have hk12 : Below w1.heap.size w1 W2 := by rw [← hW2]; exact ((Below.refl _ _).alloc (Nat.le_refl _) _).alloc (by simp) _
  have HS2 : Hid (∀ (W3 : World) (B2 : Nat) (A : Option Addr), Below W2.heap.size W2 W3 → Reads W3 B2 8 A (branchesK k).length (kpsC (branchesK k)) → B2 ≤ W3.heap.size → w1.heap.size + 2 ≤ B2 → BtS w W3 k (branchesK k) w1.heap.size 0 B2 A (endF (branchesK k) 0 [])) := Lib.hid (by
    intro W3 B2 A hb hrd hhi hup
    have k13 := hk12.trans (hb.mono hk12.size)
    refine ⟨K1.out.trans (k13.mono K1.out.size), L2'.out.call k13, L3'.out.call k13, L4'.out.call k13, ?_, ?_, hrd, HLO.out, hhi, hup⟩
    · refine Blk.call ?_ hb
      rw [← hW2]
      have := Blk.new (w1.alloc (.map #[] 0)) 65 #[.map (some w1.heap.size)]
      rwa [World.size_alloc] at this
    · have h0 : MapF Try.prog 71 3 (fun x : Int × Bool => i64ok x.1) endKey W2 w1.heap.size 0 (fun x : Int × Bool => none) := by
        rw [← hW2]
        exact (MapF.made w1).call (((Below.refl _ _).alloc (Nat.le_refl _) _))
      have h1 := h0.call hb
      have e : (fun x : Int × Bool => litO (endF (branchesK k) 0 [] x)) = fun x => none := by
        funext x
        rw [endF_start, List.take_zero, usersL]
        rfl
      rw [e]
      exact h1)
  have hz2 : W2.heap.size = w1.heap.size + 2 := by rw [← hW2]; simp
  have HZ2 := Lib.hid hz2
  have HK2 := Lib.hid (K1.out.trans (hk12.mono K1.out.size))
  have HL2 := Lib.hid (L2'.out.call hk12)
  clear hk12 hz2 L2' L3' L4'
  have hmk : (Instr.makeMap 65 none).run Try.prog w1 = .ok (.map (some w1.heap.size)) (w1.alloc (.map #[] 0)) := run_makeMap _ _
  go_upto_region 4 with fail
  clear hW2 hmk
  have k2 := HL2.out
  simp only [KK.flat] at k2
  have e0 := k2.cell 0
  have e1 := k2.cell 1
  have e2 := k2.cell 2
  have e3 := k2.cell 3
  have e4 := k2.cell 4
  have e5 := k2.cell 5
  have e6 := k2.cell 6
  have e7 := k2.cell 7
  have e8 := k2.cell 8
  have e9 := k2.cell 9
  have e10 := k2.cell 10
  simp at e0 e1 e2 e3 e4 e5 e6 e7 e8 e9 e10
  clear k2
  go_upto_region 5 with (first
    | (go_at_call 21; (with_reducible refine (HBC.out _ HK2.out).mono ?_); rintro e1 w3 ⟨hb3, A, c, rfl, hrd3⟩))
  have S3 := HS2.out w3 w3.heap.size A hb3 hrd3 (Nat.le_refl _) (by rw [← HZ2.out]; exact hb3.size)
  clear HS2 hb3 hrd3 HBC e0 e1 e2 e3 e4 e5 e6 e7 e8 e9 e10 HL2
  have S := Lib.hid S3
  clear S3
  obtain ⟨r, hr⟩ : ∃ q, w1.heap.size = q := ⟨_, rfl⟩
  rw [hr] at S HZ2 HLO ⊢
  clear hr
  obtain ⟨bs, hbs⟩ : ∃ q, branchesK k = q := ⟨_, rfl⟩
  rw [hbs] at S ⊢
  have HBS := Lib.hid hbs
  obtain ⟨nb, hnb⟩ : ∃ q, bs.length = q := ⟨_, rfl⟩
  rw [hnb]
  have HNB := Lib.hid hnb
  have hnbl : nb ≤ 140737488355328 := by rw [← hnb, ← hbs]; exact branch_len HKI.out
  obtain ⟨B2, hB2⟩ : ∃ q, w3.heap.size = q := ⟨_, rfl⟩
  rw [hB2] at S
  clear hbs hnb hB2
  refine wp_loop (fun a W => ∃ u5 u6 u24 u25 u26 u27 u28 u29 u46 : Value, ∃ (j n : Nat) (ds : List Deferred), a = { tmps := #[.agg #[.slice k.Av k.vars.length k.cv, .slice k.Ac k.chans.length k.cc, .int .u8 k.root.kind, .int .i64 k.root.c, .int .i64 k.root.v, .int .u8 k.root.item, .slice k.root.At k.root.tos.length k.root.ct, .slice k.root.Ae k.root.e.length k.root.ce, .slice k.root.Ag k.root.g.length k.root.cg, .slice k.root.Al k.root.l.length k.root.cl, .slice k.Ap k.procs.length k.cp], .pointer (some ⟨w.heap.size, 0, none⟩), .pointer (some ⟨w.heap.size + 1, 0, none⟩), .pointer (some ⟨w.heap.size + 1 + 1, 0, none⟩), .pointer (some ⟨r + 1, 0, none⟩), u5, u6, undef, undef, undef, undef, undef, undef, undef, undef, undef, .agg #[.slice k.Av k.vars.length k.cv, .slice k.Ac k.chans.length k.cc, .int .u8 k.root.kind, .int .i64 k.root.c, .int .i64 k.root.v, .int .u8 k.root.item, .slice k.root.At k.root.tos.length k.root.ct, .slice k.root.Ae k.root.e.length k.root.ce, .slice k.root.Ag k.root.g.length k.root.cg, .slice k.root.Al k.root.l.length k.root.cl, .slice k.Ap k.procs.length k.cp], .bool true, .bool false, .map (some r), .agg #[.slice k.Av k.vars.length k.cv, .slice k.Ac k.chans.length k.cc, .int .u8 k.root.kind, .int .i64 k.root.c, .int .i64 k.root.v, .int .u8 k.root.item, .slice k.root.At k.root.tos.length k.root.ct, .slice k.root.Ae k.root.e.length k.root.ce, .slice k.root.Ag k.root.g.length k.root.cg, .slice k.root.Al k.root.l.length k.root.cl, .slice k.Ap k.procs.length k.cp], .slice A nb c, .int .i64 nb, .int .i64 j, u24, u25, u26, u27, u28, u29, undef, undef, undef, undef, undef, undef, undef, undef, undef, undef, undef, undef, undef, undef, undef, undef, u46, undef, undef, undef, undef, undef, undef, undef, undef, undef, undef, undef, undef, undef, undef, undef, undef, undef, undef, undef, undef, undef, undef, undef, undef, undef, undef, undef, undef, undef, undef, undef, undef, undef, undef, undef, undef, undef, undef, undef, undef, undef, undef, undef, undef, undef, undef, undef, undef, undef, undef, undef, undef, undef, undef, undef, undef, undef, undef, undef, undef, undef, undef, undef, undef, undef, undef, undef], defers := ds } ∧ j ≤ nb ∧ Hid (BtS w W k bs r n B2 A (endF bs j [])) ∧ Hid (Unclash (bs.take j)) ∧ Hid (Marks (w.heap.size + 3) ds W) ∧ Hid (n = (endsPs (bs.take j)).length)) (fun a _ => nb - (intOf (a.tmps.getD 23 undef)).toNat) ?start ?round
  case start =>
    exact ⟨undef, undef, undef, undef, undef, undef, undef, undef, undef, 0, 0, [], rfl, Nat.zero_le _, S, Lib.hid (fun x => by rw [List.take_zero, usersL]; simp), Lib.hid (Marks.nil _ _), Lib.hid (by rw [List.take_zero, endsPs]; rfl)⟩
  case round =>
    clear S
    rintro _ wr ⟨u5, u6, u24, u25, u26, u27, u28, u29, u46, j, n, ds, rfl, hj, S, HUN, HMK, HN⟩
    by_cases hlt : j < nb
    · have hltI : (j : Int) < nb := by omega
      have hszw := S.out.hi
      obtain ⟨b, off, x, hA, hb, hx, hmx, c0, c1, c2, c3, c4, c5, c6, c7⟩ := kps_at S.out.br rfl (k := j) (by rw [HNB.out]; exact hlt)
      have hbw : b < wr.heap.size := Nat.lt_of_lt_of_le hb hszw
      subst hA
      have HX := Lib.hid hx
      have HMX := Lib.hid hmx
      have HE := Lib.hid (fun w => pEnds x w)
      simp only [KP.cells] at HE
      obtain ⟨W5, hW5⟩ : ∃ W, (wr.alloc (.cells #[.int .i64 j] 3)).alloc (.cells x.cells 31) = W := ⟨_, rfl⟩
      have k5 : Below wr.heap.size wr W5 := by rw [← hW5]; exact ((Below.refl _ _).alloc (Nat.le_refl _) _).alloc (by simp) _
      have b5 : Blk W5 wr.heap.size 3 #[.int .i64 j] := by rw [← hW5]; exact (Blk.new _ _ _).alloc _
      have b6 : Blk W5 (wr.heap.size + 1) 31 x.cells := by
        rw [← hW5]
        have := Blk.new (wr.alloc (.cells #[.int .i64 (j : Int)] 3)) 31 x.cells
        rwa [World.size_alloc] at this
      have hz5 : W5.heap.size = wr.heap.size + 2 := by rw [← hW5]; simp
      have S5 := Lib.hid (S.out.call k5)
      have HK5 := Lib.hid k5
      have HB5 := Lib.hid b5
      have HB6 := Lib.hid b6
      have HZ5 := Lib.hid hz5
      have HW5 := Lib.hid hW5
      simp only [KP.cells] at hW5
      clear hx hmx k5 b5 hz5
      go_upto_region 7 with fail
      clear c0 c1 c2 c3 c4 c5 c6 c7 hW5 HW5 S
      simp only [KP.cells] at b6
      have e0 := b6.cell 0
      have e1 := b6.cell 1
      have e2 := b6.cell 2
      have e3 := b6.cell 3
      have e4 := b6.cell 4
      have e5 := b6.cell 5
      have e6 := b6.cell 6
      have e7 := b6.cell 7
      simp at e0 e1 e2 e3 e4 e5 e6 e7
      clear b6
      go_wp2_with (go_at_call 22; (with_reducible refine (HE.out _).mono ?_); rintro e1 w6 ⟨rfl, hw6⟩)
      clear HE
      rw [← hw6]
      have k6 : Below W5.heap.size W5 w6 := by rw [hw6]; exact (Below.refl _ _).alloc (Nat.le_refl _) _
      have b7 : Blk w6 W5.heap.size 31 x.cells := by rw [hw6]; exact Blk.new _ _ _
      have hz6 : w6.heap.size = wr.heap.size + 3 := by rw [hw6, World.size_alloc, HZ5.out]
      have hz5 := HZ5.out
      rw [hz5] at b7 ⊢
      have S6 := Lib.hid (S5.out.call k6)
      have HB56 := Lib.hid (HB5.out.call k6)
      have HZ6 := Lib.hid hz6
      have HB7 := Lib.hid b7
      have k6r : Below wr.heap.size wr w6 := HK5.out.trans (k6.mono HK5.out.size)
      have HM6 : Hid (Marks (w.heap.size + 3) ds w6) := Lib.hid (HMK.out.mono fun D _ hD => by rw [k6r.block D (Array.getElem?_eq_some_iff.1 hD).1]; exact hD)
      have HML : Hid (∀ d ∈ ds, ∀ D, d.target = .collected D → D < wr.heap.size) := Lib.hid HMK.out.lt
      have HXB : Hid (x.all Bodies) := Lib.hid (bodies_of (HF.out.branch x (by rw [HBS.out]; exact HMX.out)))
      have HXE : Hid (∀ y ∈ endsP x, 0 ≤ y.1 ∧ y.1 < k.chans.length) := Lib.hid (HF.out.ends (by rw [HBS.out]; exact HMX.out))
      have HXI : Hid (x.In w B) := Lib.hid (branch_in HKI.out x (by rw [HBS.out]; exact HMX.out))
      have HFEW : Hid (n + (endsP x).length ≤ 4095) := Lib.hid (by rw [HN.out, few_snoc HX.out]; have h1 := endsPs_take_len bs (j + 1); have h2 := HF.out.few; rw [HBS.out] at h2; omega)
      clear hw6 k6 b7 hz6 hz5 k6r S5 HB5 HB6 HZ5 HK5 HMK e0 e1 e2 e3 e4 e5 e6 e7 W5
      refine (wpIn_wide (n := 9)).1 ?_
      have hlo := HLO.out
      have hup := S6.out.up
      have hz6 := HZ6.out
      have hloS := S6.out.lo
      refine wpIn_range_untilM (m := r) (by omega) rfl rfl (gf := 36) (lb := #[.pointer (some ⟨wr.heap.size + 2, 0, none⟩)]) rfl trivial (enters_of Try.func36 (by kernel_rfl) rfl) (encs := fun y : Int × Bool => #[endV y]) (X := fun _ => False) (D := fun W => x.In W B) (xs := endsP x) (w0 := w6)
        (pEnds1 x HXB.out (wr.heap.size + 2) B 8 (fun _ => False) w6 HB7.out (fun _ h => h.elim) (by omega)) (Below.refl _ _) (fun _ => rfl)
        (BtI w w6 k bs r n B2 wr.heap.size j (some ⟨b, off, none⟩) ds)
        (BtX w k ds)
        ?hI ?hIx ?hID ?h0 ?hround ?hdone ?hstop
      case hI => exact fun pre W W' h hb => ⟨h.s.deep (by omega) hb, h.b5.below hb (by omega), h.un, ⟨h.ms.1, fun d hd => by obtain ⟨D, rfl, g2, g3⟩ := h.ms.2 d hd; exact ⟨D, rfl, g2, (hb.block D (by have := HML.out _ hd D rfl; omega)).trans g3⟩⟩, Nat.le_trans h.sz hb.size⟩
      case hIx => exact fun c pre W W' h hb => ⟨h.c, h.b.trans (hb.mono (by omega)), h.r1.below hb (by omega), h.r2.below hb (by omega), ⟨h.ms.1, fun d hd => by obtain ⟨D, rfl, g2, g3⟩ := h.ms.2 d hd; exact ⟨D, rfl, g2, (hb.block D (by have := HML.out _ hd D rfl; omega)).trans g3⟩⟩, h.bad⟩
      case hID => exact fun pre W h => HXI.out.below (h.s.bel.mono hB)
      case h0 => exact ⟨S6.out, HB56.out, (fun y hy => by cases hy), HM6.out, Nat.le_refl _⟩
      case hround =>
        rintro l pre y rr W HI hxs hsW
        replace HI := Lib.hid HI
        have hym : y ∈ endsP x := by rw [hxs]; simp
        have hyr := HXE.out y hym
        have hlen : pre.length < (endsP x).length := by rw [hxs]; simp
        obtain ⟨y1, y2⟩ := y
        have hc64 := HF.out.c64
        have hok : i64ok y1 := by unfold i64ok; simp at hyr; omega
        unfold endV
        have HH := Lib.hid (And.intro hz6 (And.intro hlo (And.intro hup (And.intro hsW (And.intro hym (And.intro hyr (And.intro hlen (And.intro hc64 (And.intro hok hxs)))))))))
        clear hz6 hlo hup hloS hsW hym hyr hlen hc64 hok hxs
        gi_wp2
        refine ⟨KeepC.alloc _ _ _, .of (KeepsOthers.alloc _ _), ?_⟩
        rintro Wb hgr hl0 hl1
        obtain ⟨hz6, hlo, hup, hsW, hym, hyr, hlen, hc64, hok, hxs⟩ := HH.out
        obtain ⟨SW, b5, hun, hmk, hzW⟩ := HI.out
        clear HH HI
        have kg : Below w6.heap.size W Wb := (((Below.refl W.heap.size W).alloc (Nat.le_refl _) _).mono hzW).grown hgr (by simp; omega) (fun q e => by injection e; omega)
        have SB := SW.deep (C := w6.heap.size) (by omega) kg
        have b5b := b5.below kg (by omega)
        have hmkb : Marks (w.heap.size + 3) ds Wb := ⟨hmk.1, fun d hd => by obtain ⟨D, rfl, h2, h3⟩ := hmk.2 d hd; exact ⟨D, rfl, h2, (kg.block D (by have := HML.out _ hd D rfl; omega)).trans h3⟩⟩
        have b7 := (Blk.new W 71 #[.int .i64 y1, .bool y2]).grown hgr (fun e => by injection e; omega)
        have hzb := kg.size
        have HS := Lib.hid SB
        have HB5 := Lib.hid b5b
        have HMKB := Lib.hid hmkb
        have HUNP := Lib.hid hun
        have HYM := Lib.hid hym
        have HOK := Lib.hid hok
        have HLEN := Lib.hid hlen
        have HYR := Lib.hid hyr
        obtain ⟨v, ps, hlook, hv⟩ := SB.mp.look_ok endEnc Try.underlying65 (zero_int0 Wb) (plainElem_int Try.underlying3 (by decide)) (x := (y1, y2)) hok
        obtain ⟨cv, rfl, hcv, -⟩ := plainElem_int_inv Try.underlying3 hv
        have hcv1 : (litO (endF bs j pre (y1, y2))).getD (.lit (.int .i64 0)) = .lit (.int .i64 cv) := by injection hcv
        have e4 := SB.r4.cell 0
        have e5 := b5b.cell 0
        have e70 := b7.cell 0
        have e71 := b7.cell 1
        have d1 := SB.r1.cell 0
        have d2 := SB.r2.cell 0
        have f1 := SB.r1.frozen 0
        have f2 := SB.r2.frozen 0
        simp at e4 e5 e70 e71 d1 d2
        simp only [endV] at hlook
        obtain ⟨o, ho⟩ : ∃ o, endF bs j pre (y1, y2) = o := ⟨_, rfl⟩
        rw [ho] at hlook hcv1
        have HO := Lib.hid ho
        clear hv hcv SB b5b hmkb hun hym hok hlen hyr ho SW b5 hmk b7
        have hno : ∀ i : Nat, o = some i → i ≠ j → betweenK k = none := by
          intro i hi hij
          have h1 := HO.out
          rw [hi] at h1
          have h2 : (y1, y2) ∉ pre := by
            intro hm
            unfold endF at h1
            rw [if_pos hm] at h1
            injection h1 with h1
            exact hij h1.symm
          unfold endF at h1
          rw [if_neg h2] at h1
          have h3 := clash_of HX.out HYM.out h1
          unfold betweenK
          rw [HBS.out]
          exact betweenN_clash HYR.out.1 HYR.out.2 h3
        have HNO := Lib.hid hno
        clear hno
        by_cases hbad : ∃ i : Nat, o = some i ∧ i ≠ j
        · obtain ⟨i, rfl, hij⟩ := hbad
          have hcv2 : cv = (i : Int) := by simp [litO] at hcv1; exact hcv1.symm
          subst hcv2
          have hne : ((i : Int) != (j : Int)) = true := by simp; omega
          have HBN := Lib.hid (HNO.out i rfl hij)
          simp only [litO, Option.map_some, Option.isSome_some] at hlook
          clear hcv1 hij HNO
          gi_wp2
          exact ⟨.of ((KeepsOthers.setCell _ _ _).trans (KeepsOthers.setCell _ _ _)), rfl, (HS.out.bel.setCell (by simp) _).setCell (by simp; omega) _, (HS.out.r1.set_ 0 _).far (by simp) _, (HS.out.r2.far (by simp) _).set_ 0 _, (HMKB.out.set (by simp) _).set (by simp) _, HBN.out⟩
        · have hnu : usersL (y1, y2) 0 (bs.take j) = [] := by
            have h1 := HO.out
            unfold endF at h1
            split at h1
            · rename_i hm
              exact HUNP.out _ hm
            · cases hh : usersL (y1, y2) 0 (bs.take j) with
              | nil => rfl
              | cons i tl =>
                rw [hh] at h1
                exact absurd ⟨i, h1.symm, by have := usersL_lt (x := (y1, y2)) (bs := bs) (j := j) (i := i) (by rw [hh]; simp); omega⟩ hbad
          have HNU := Lib.hid hnu
          have hfew := HFEW.out
          have hln := HLEN.out
          obtain ⟨w', hupd, hmap, hgrow⟩ := HS.out.mp.update endEnc Try.underlying65 (by unfold maxLen; omega) (plainElem_int Try.underlying3 (i64_lit (a := (j : Int)) (by unfold i64ok; omega))) (x := (y1, y2)) HOK.out
          have hmap2 := hmap.congr (g := fun y => litO (endF bs j (pre ++ [(y1, y2)]) y)) (fun y => by
            rw [endF_snoc]
            by_cases h : y = (y1, y2)
            · rw [if_pos h, if_pos h]; rfl
            · rw [if_neg h, if_neg h])
          simp only [endV] at hupd
          have HW : Hid (goesOnM r (fun _ => False) Wb (BtI w w6 k bs r n B2 wr.heap.size j (some ⟨b, off, none⟩) ds (pre ++ [(y1, y2)])) (fun c => BtX w k ds c (pre ++ [(y1, y2)])) .normal { tmps := #[], defers := [] } w') := Lib.hid (by
            obtain ⟨es, cl, hm⟩ := HS.out.mp.mapObj
            refine ⟨KeepC.grown_map hgrow hm rfl, .grown hgrow, ?_, ?_, ?_, ?_, ?_⟩
            · have e : n + (pre ++ [(y1, y2)]).length = n + pre.length + 1 := by simp; omega
              rw [e]
              exact HS.out.put hgrow hmap2
            · exact HB5.out.grown hgrow (fun e => by injection e; omega)
            · intro y hy
              rcases List.mem_append.1 hy with h | h
              · exact HUNP.out y h
              · obtain rfl := List.mem_singleton.1 h
                exact HNU.out
            · exact HMKB.out.grown_map hgrow hm
            · exact Nat.le_trans (Nat.le_trans hzW hzb) hgrow.size)
          clear hmap hmap2 hgrow hfew hln hnu
          rcases o with _ | i
          · simp only [litO, Option.map_none, Option.isSome_none] at hlook
            clear hbad hcv1 HNO
            gi_wp2
            exact HW.out
          · have hij : i = j := Classical.byContradiction fun h => hbad ⟨i, rfl, h⟩
            subst hij
            have hcv2 : cv = (i : Int) := by simp [litO] at hcv1; exact hcv1.symm
            subst hcv2
            simp only [litO, Option.map_some, Option.isSome_some] at hlook
            clear hbad hcv1 HNO
            gi_wp2
            exact HW.out
      case hdone =>
        rintro D W HI hD hDl
        replace HI := Lib.hid HI
        have HD := Lib.hid hD
        have HDL := Lib.hid hDl
        clear hD hDl hz6 hlo hup hloS
        go_wp2
        refine ⟨⟨_, _, _, _, _, _, _, _, _, j + 1, n + (endsP x).length, { target := .collected D, args := #[] } :: ds, rfl, by omega, ?_, ?_, ?_, ?_⟩, ?_⟩
        · exact Lib.hid (HI.out.s.congr (endF_end HX.out HI.out.un))
        · exact Lib.hid (unclash_snoc HX.out HI.out.un HUN.out)
        · exact Lib.hid (HI.out.ms.cons (by have := HLO.out; have := HZ6.out; have := HDL.out; have := S6.out.up; omega) HD.out (fun d hd he => by have := HML.out d hd D he; have := HZ6.out; have := HDL.out; omega))
        · exact Lib.hid (by rw [HN.out, few_snoc HX.out])
        · simp [intOf]; omega
      case hstop =>
        rintro D cc pre y rr W hxs ⟨rfl, h1, h2, h3, h4, h5⟩ hD hDl
        have HQ2 : Q = (400, []) := by rw [HQ.out, h5]
        subst HQ2
        have HMX := Lib.hid (h4.cons (D := D) (by have := S6.out.up; have := S6.out.lo; have := HZ6.out; omega) hD (fun d hd he => by have := HML.out d hd D he; have := HZ6.out; omega))
        have HD := Lib.hid (And.intro h1 (And.intro h2 h3))
        clear h1 h2 h3 h4 h5 hD hDl hxs hz6 hlo hup hloS
        gi_wp2
        exact bt_leave (q := (400, [])) (A := none) (c := 0) rfl HMX.out rfl rfl HD.out.1 HD.out.2.1 HD.out.2.2 ⟨rfl, fun h => absurd h (by simp)⟩
    · have hltI : ¬ (j : Int) < nb := by omega
      obtain rfl : nb = j := by omega
      have htk : bs.take nb = bs := List.take_of_length_le (by rw [HNB.out]; omega)
      have S2 := Lib.hid (S.out.congr (g := fun y => (usersL y 0 bs).head?) (fun y => by rw [endF_start, htk]))
      have hun := HUN.out
      rw [htk] at hun
      have HUN2 := Lib.hid hun
      clear hun htk S HUN HN
      obtain ⟨nc, hnc⟩ : ∃ q, k.chans.length = q := ⟨_, rfl⟩
      have HNC := Lib.hid hnc
      have hc64 := HF.out.c64
      rw [hnc] at hc64
      have k2 := S2.out.kb
      have e1 := k2.cell 1
      simp [KK.flat] at e1
      rw [hnc] at e1
      clear k2
      obtain ⟨i0, hi0, hz0, hz1, hz2⟩ := info_parts trip_info
      simp only [hnc]
      clear hnc
      obtain ⟨wz, rfl⟩ : ∃ q, q = wr := ⟨_, rfl⟩
      go_wp2_with fail
      go_loopw [50, 10] (fun i v W => ∃ (c2 : Nat) (l : List (Int × Int × Int)), c2 ≤ nc ∧ i = .int .i64 c2 ∧ Hid (BtL wz W bs c2 v l)) (fun i _ _ => nc - (intOf i).toNat)
      case atStart => exact ⟨0, [], Nat.zero_le _, rfl, Lib.hid ⟨Below.refl _ _, by rw [betweenN], World.ownsRow_nil _ _ _ _⟩⟩
      case round =>
        clear e1
        obtain ⟨c2, l, hc2, rfl, L⟩ := hrel
        by_cases hlt2 : c2 < nc
        · have hlt2I : (c2 : Int) < nc := by omega
          have SW := S2.out.call L.out.bel
          have e4 := SW.r4.cell 0
          simp at e4
          have hok1 : i64ok (c2 : Int) := by unfold i64ok; omega
          obtain ⟨v1, ps1, hl1, hv1⟩ := SW.mp.look_ok endEnc Try.underlying65 (zero_int0 wr) (plainElem_int Try.underlying3 (by decide)) (x := ((c2 : Int), true)) hok1
          obtain ⟨cv1, rfl, hcw1, -⟩ := plainElem_int_inv Try.underlying3 hv1
          have hcv1 : (litO (usersL ((c2 : Int), true) 0 bs).head?).getD (.lit (.int .i64 0)) = .lit (.int .i64 cv1) := by injection hcw1
          obtain ⟨v2, ps2, hl2, hv2⟩ := SW.mp.look_ok endEnc Try.underlying65 (zero_int0 wr) (plainElem_int Try.underlying3 (by decide)) (x := ((c2 : Int), false)) hok1
          obtain ⟨cv2, rfl, hcw2, -⟩ := plainElem_int_inv Try.underlying3 hv2
          have hcv2 : (litO (usersL ((c2 : Int), false) 0 bs).head?).getD (.lit (.int .i64 0)) = .lit (.int .i64 cv2) := by injection hcw2
          simp only [endV] at hl1 hl2
          have hll := betweenN_len L.out.eq
          have hlz := L.out.bel.size
          obtain ⟨o1, ho1⟩ : ∃ o, (usersL ((c2 : Int), true) 0 bs).head? = o := ⟨_, rfl⟩
          obtain ⟨o2, ho2⟩ : ∃ o, (usersL ((c2 : Int), false) 0 bs).head? = o := ⟨_, rfl⟩
          have HRW : Hid (∀ r, rowC o1 o2 c2 = r → rowC (usersL ((c2 : Int), true) 0 bs).head? (usersL ((c2 : Int), false) 0 bs).head? c2 = r) := Lib.hid (by rw [ho1, ho2]; exact fun _ h => h)
          rw [ho1] at hl1 hcv1
          rw [ho2] at hl2 hcv2
          clear hcw1 hcw2 hv1 hv2 hok1 SW ho1 ho2
          by_cases h0 : c2 = 0
          · have y0 : ((c2 : Int) == 0) = true := by simp [h0]
            have y1 : ((c2 : Int) == 1) = false := by simp; omega
            have y2 : ¬ (1 : Int) < (c2 : Int) := by omega
            rcases o2 with _ | i2
            · have hr0 : rowC o1 none c2 = [] := by rw [h0]; rfl
              clear h0
              simp only [litO, Option.map_none, Option.isSome_none] at hl2
              clear hcv2
              have L3 := Lib.hid (L.out.same HUN2.out (HRW.out [] hr0))
              go_wp2
              go_roundw
              case rel => exact ⟨c2 + 1, l, by omega, by go_num, L3⟩
              case measure => simp [intOf]; omega
            · have hr0 : rowC o1 (some i2) c2 = [((c2 : Int), -1, (i2 : Int))] := by rw [h0]; rfl
              clear h0
              have hc2e : cv2 = (i2 : Int) := by simp [litO] at hcv2; exact hcv2.symm
              subst hc2e
              simp only [litO, Option.map_some, Option.isSome_some] at hl2
              clear hcv2
              have OW := Lib.hid (L.out.own.alloc (.cells #[.int .i64 (c2 : Int), .int .i64 (-1), .int .i64 (i2 : Int)] 57))
              have bN := Blk.new wr 57 #[.int .i64 (c2 : Int), .int .i64 (-1), .int .i64 (i2 : Int)]
              have HR1 := Lib.hid (HRW.out [((c2 : Int), (-1), (i2 : Int))] hr0)
              go_wp2_with (at_builtin; refine app_own Try.underlying42 hi0 hz0 hz1 hz2 rfl (by decide) OW.out (by simp; omega) rfl (.tmp 73) (.tmp 77) rfl rfl wr.heap.size 1 1 #[.int .i64 (c2 : Int), .int .i64 (-1), .int .i64 (i2 : Int)] rfl bN rfl (by simp [Value.oneCell']) (by omega) (by omega) ?_; intro v' w' hown hg hb hat)
              have L3 := Lib.hid (L.out.app HUN2.out HR1.out hown (hb.mono (by simp <;> omega)))
              clear hown hg hb hat bN OW
              go_roundw
              case rel => exact ⟨c2 + 1, _, by omega, by go_num, L3⟩
              case measure => simp [intOf]; omega
          by_cases h1 : c2 = 1
          · have y0 : ((c2 : Int) == 0) = false := by simp; omega
            have y1 : ((c2 : Int) == 1) = true := by simp [h1]
            have y2 : ¬ (1 : Int) < (c2 : Int) := by omega
            rcases o1 with _ | i1
            · have hr0 : rowC none o2 c2 = [] := by rw [h1]; rfl
              clear h0 h1
              simp only [litO, Option.map_none, Option.isSome_none] at hl1
              clear hcv1
              have L3 := Lib.hid (L.out.same HUN2.out (HRW.out [] hr0))
              go_wp2
              go_roundw
              case rel => exact ⟨c2 + 1, l, by omega, by go_num, L3⟩
              case measure => simp [intOf]; omega
            · have hr0 : rowC (some i1) o2 c2 = [((c2 : Int), (i1 : Int), -1)] := by rw [h1]; rfl
              clear h0 h1
              have hc1e : cv1 = (i1 : Int) := by simp [litO] at hcv1; exact hcv1.symm
              subst hc1e
              simp only [litO, Option.map_some, Option.isSome_some] at hl1
              clear hcv1
              have OW := Lib.hid (L.out.own.alloc (.cells #[.int .i64 (c2 : Int), .int .i64 (i1 : Int), .int .i64 (-1)] 57))
              have bN := Blk.new wr 57 #[.int .i64 (c2 : Int), .int .i64 (i1 : Int), .int .i64 (-1)]
              have HR1 := Lib.hid (HRW.out [((c2 : Int), (i1 : Int), (-1))] hr0)
              go_wp2_with (at_builtin; refine app_own Try.underlying42 hi0 hz0 hz1 hz2 rfl (by decide) OW.out (by simp; omega) rfl (.tmp 85) (.tmp 89) rfl rfl wr.heap.size 1 1 #[.int .i64 (c2 : Int), .int .i64 (i1 : Int), .int .i64 (-1)] rfl bN rfl (by simp [Value.oneCell']) (by omega) (by omega) ?_; intro v' w' hown hg hb hat)
              have L3 := Lib.hid (L.out.app HUN2.out HR1.out hown (hb.mono (by simp <;> omega)))
              clear hown hg hb hat bN OW
              go_roundw
              case rel => exact ⟨c2 + 1, _, by omega, by go_num, L3⟩
              case measure => simp [intOf]; omega
          have y0 : ((c2 : Int) == 0) = false := by simp; omega
          have y1 : ((c2 : Int) == 1) = false := by simp; omega
          have y2 : (1 : Int) < (c2 : Int) := by omega
          rcases o2 with _ | i2
          · have hr0 : rowC o1 none c2 = [] := rowC_n2 h0 h1
            clear h0 h1
            simp only [litO, Option.map_none, Option.isSome_none] at hl2
            clear hcv2
            have L3 := Lib.hid (L.out.same HUN2.out (HRW.out [] hr0))
            go_wp2
            go_roundw
            case rel => exact ⟨c2 + 1, l, by omega, by go_num, L3⟩
            case measure => simp [intOf]; omega
          rcases o1 with _ | i1
          · have hr0 : rowC none (some i2) c2 = [] := rowC_n1 h0 h1
            clear h0 h1
            simp only [litO, Option.map_none, Option.isSome_none] at hl1
            clear hcv1
            have hc2e : cv2 = (i2 : Int) := by simp [litO] at hcv2; exact hcv2.symm
            subst hc2e
            simp only [litO, Option.map_some, Option.isSome_some] at hl2
            clear hcv2
            have L3 := Lib.hid (L.out.same HUN2.out (HRW.out [] hr0))
            go_wp2
            go_roundw
            case rel => exact ⟨c2 + 1, l, by omega, by go_num, L3⟩
            case measure => simp [intOf]; omega
          by_cases hij : i1 = i2
          · have hr0 : rowC (some i1) (some i2) c2 = [] := by rw [rowC_ss h0 h1]; simp [hij]
            have yn : ((i1 : Int) != (i2 : Int)) = false := by simp [hij]
            clear h0 h1 hij
            have hc1e : cv1 = (i1 : Int) := by simp [litO] at hcv1; exact hcv1.symm
            subst hc1e
            simp only [litO, Option.map_some, Option.isSome_some] at hl1
            clear hcv1
            have hc2e : cv2 = (i2 : Int) := by simp [litO] at hcv2; exact hcv2.symm
            subst hc2e
            simp only [litO, Option.map_some, Option.isSome_some] at hl2
            clear hcv2
            have L3 := Lib.hid (L.out.same HUN2.out (HRW.out [] hr0))
            go_wp2
            go_roundw
            case rel => exact ⟨c2 + 1, l, by omega, by go_num, L3⟩
            case measure => simp [intOf]; omega
          · have hr0 : rowC (some i1) (some i2) c2 = [((c2 : Int), (i1 : Int), (i2 : Int))] := by rw [rowC_ss h0 h1]; simp [hij]
            have yn : ((i1 : Int) != (i2 : Int)) = true := by simp; omega
            clear h0 h1 hij
            have hc1e : cv1 = (i1 : Int) := by simp [litO] at hcv1; exact hcv1.symm
            subst hc1e
            simp only [litO, Option.map_some, Option.isSome_some] at hl1
            clear hcv1
            have hc2e : cv2 = (i2 : Int) := by simp [litO] at hcv2; exact hcv2.symm
            subst hc2e
            simp only [litO, Option.map_some, Option.isSome_some] at hl2
            clear hcv2
            have OW := Lib.hid (L.out.own.alloc (.cells #[.int .i64 (c2 : Int), .int .i64 (i1 : Int), .int .i64 (i2 : Int)] 57))
            have bN := Blk.new wr 57 #[.int .i64 (c2 : Int), .int .i64 (i1 : Int), .int .i64 (i2 : Int)]
            have HR1 := Lib.hid (HRW.out [((c2 : Int), (i1 : Int), (i2 : Int))] hr0)
            go_wp2_with (at_builtin; refine app_own Try.underlying42 hi0 hz0 hz1 hz2 rfl (by decide) OW.out (by simp; omega) rfl (.tmp 105) (.tmp 110) rfl rfl wr.heap.size 1 1 #[.int .i64 (c2 : Int), .int .i64 (i1 : Int), .int .i64 (i2 : Int)] rfl bN rfl (by simp [Value.oneCell']) (by omega) (by omega) ?_; intro v' w' hown hg hb hat)
            have L3 := Lib.hid (L.out.app HUN2.out HR1.out hown (hb.mono (by simp <;> omega)))
            clear hown hg hb hat bN OW
            go_roundw
            case rel => exact ⟨c2 + 1, _, by omega, by go_num, L3⟩
            case measure => simp [intOf]; omega
        · have hlt2I : ¬ (c2 : Int) < nc := by omega
          obtain rfl : nc = c2 := by omega
          have hQ2 : Q = (0, l) := by
            rw [HQ.out]
            unfold betweenK
            rw [HBS.out, HNC.out, L.out.eq]
          have HQ2 := Lib.hid hQ2
          clear hQ2
          have SW := S2.out.call L.out.bel
          have d1 := SW.r1.cell 0
          have d2 := SW.r2.cell 0
          have f1 := SW.r1.frozen 0
          have f2 := SW.r2.frozen 0
          simp at d1 d2
          have HSW := Lib.hid SW
          clear SW
          obtain ⟨A9, c9, hv9⟩ := own_slice L.out.own
          subst hv9
          have HRD : Hid (Reads ((wr.setCell ⟨w.heap.size + 1, 0, none⟩ (.slice A9 l.length c9)).setCell ⟨w.heap.size + 1 + 1, 0, none⟩ (.int .i64 0)) ((wr.setCell ⟨w.heap.size + 1, 0, none⟩ (.slice A9 l.length c9)).setCell ⟨w.heap.size + 1 + 1, 0, none⟩ (.int .i64 0)).heap.size 3 A9 l.length (tripC l)) := Lib.hid (by
            have hz : ((wr.setCell ⟨w.heap.size + 1, 0, none⟩ (.slice A9 l.length c9)).setCell ⟨w.heap.size + 1 + 1, 0, none⟩ (.int .i64 0)).heap.size = wr.heap.size := by simp
            rw [hz]
            have hlo := S2.out.lo
            have hup := S2.out.up
            have hhi := S2.out.hi
            exact ((Reads.of_own L.out.own).far_set (fun k hk => by have := (L.out.own.lt k hk).1; simp; omega) _).far_set (fun k hk => by have := (L.out.own.lt k hk).1; simp; omega) _)
          have HMR := Lib.hid (HMK.out.mono fun D _ hD => (L.out.bel.block D (Array.getElem?_eq_some_iff.1 hD).1).trans hD)
          go_wp2
          obtain rfl := HQ2.out
          exact bt_leave (q := (0, l)) (A := A9) (c := c9) rfl ((HMR.out.set (by simp) _).set (by simp) _) rfl rfl ((HSW.out.bel.setCell (by simp) _).setCell (by simp; omega) _) ((HSW.out.r1.set_ 0 _).far (by simp) _) ((HSW.out.r2.far (by simp) _).set_ 0 _) HRD.out
theorem pBetween (k : KK) (B : Nat) (w : World) (hk : k.In w B) (hB : B ≤ w.heap.size) (hcap : k.procs.length ≤ k.cp) : Calls Try.prog 8 #[.agg k.flat] w (RetBt (betweenQ k) w) := by
  cases hm : mayK k with
  | true => exact pBetween_yes k B w hk hB hcap hm
  | false =>
    have h : betweenQ k = (2, []) := by unfold betweenQ; rw [hm]; rfl
    rw [h]
    exact pBetween_no k B w hk hB hcap hm
end Go.Proofs.Ytekamebpjjkifaa
