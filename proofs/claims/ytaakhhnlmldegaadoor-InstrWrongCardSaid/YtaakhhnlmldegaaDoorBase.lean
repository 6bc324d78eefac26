/- Plain lemmas on memory that every text of this seat uses: a slice that reads as a list, a block known whole, appends, frames behind draws. -/
import Derived.Test.YtaakhhnlmldegaaDoorRows
import Derived.WalkKit
import Derived.WalkSpells
import Derived.WalkLawsBesides
import Derived.Maps.AppendAt
import Derived.Deep.AppendLies
import Derived.Deep.Draws
import Derived.Deep.OwnRows
import Derived.Deep.QuietTactic
import Derived.BigQuiet
import Derived.StillTailTactics
import Derived.RegionTactic
import Derived.Deep.RegionHeld3
import Derived.Deep.DeepCutAuto
import Derived.Deep.CutBlock
import Derived.OwnWalk
import Derived.Lib.Hide
import Derived.Laws.MakeOwn
namespace Go.Proofs.YtaakhhnlmldegaaDoor
open Go.RowKit
set_option linter.unusedVariables false
set_option linter.unusedSimpArgs false
set_option linter.unusedVariables false
theorem block_of_add (a : Addr) (n : Nat) : (a.add n).block = a.block := by unfold Addr.add; split <;> rfl
theorem add_of_add (a : Addr) (i j : Nat) : (a.add i).add j = a.add (i + j) := by
  unfold Addr.add
  by_cases hi : i = 0 <;> by_cases hj : j = 0 <;> simp [hi, hj, Nat.add_assoc]

def Reads (w : World) (B size : Nat) (A : Option Addr) (n : Nat) (xs : List Value) : Prop :=
  xs.length = n * size ∧ (0 < n → ∃ ad, A = some ad ∧ ad.block < B ∧ ∀ j u, xs[j]? = some u → w.cell? (ad.add j) = some u)

section
variable {w w' : World} {B B' size n : Nat} {A : Option Addr} {xs : List Value}
theorem Reads.none_ : Reads w B size A 0 [] := ⟨by simp, fun h => absurd h (by omega)⟩
theorem Reads.at_ {k : Nat} (h : Reads w B 1 A n xs) (hk : k < n) : ∃ ad u, A = some ad ∧ ad.block < B ∧ xs[k]? = some u ∧ w.cell? (ad.add k) = some u := by
  obtain ⟨ad, e, hb, hc⟩ := h.2 (by omega)
  have hl : k < xs.length := by have := h.1; omega
  exact ⟨ad, xs[k], e, hb, List.getElem?_eq_getElem hl, hc k _ (List.getElem?_eq_getElem hl)⟩
theorem Reads.keep (h : Reads w B size A n xs) (hk : ∀ p : Addr, p.block < B → w'.cell? p = w.cell? p) : Reads w' B size A n xs :=
  ⟨h.1, fun hn => by
    obtain ⟨ad, e, hb, hc⟩ := h.2 hn
    exact ⟨ad, e, hb, fun j u hu => (hk _ (by rw [block_of_add]; exact hb)).trans (hc j u hu)⟩⟩
theorem Reads.more (h : Reads w B size A n xs) (hB : B ≤ B') : Reads w B' size A n xs :=
  ⟨h.1, fun hn => by
    obtain ⟨ad, e, hb, hc⟩ := h.2 hn
    exact ⟨ad, e, by omega, hc⟩⟩
theorem Reads.below (h : Reads w B size A n xs) (hb : Below B w w') : Reads w' B size A n xs := h.keep fun _ hp => hb.cell hp
theorem Reads.drew (h : Reads w B size A n xs) : Reads w.drew B size A n xs := h
theorem Reads.drewN (h : Reads w B size A n xs) (k : Nat) : Reads (w.drewN k) B size A n xs := h
theorem Reads.alloc (h : Reads w B size A n xs) (hB : B ≤ w.heap.size) (o : Obj) : Reads (w.alloc o) B size A n xs := h.keep fun p hp => World.cell?_alloc_lt w o p (by omega)
theorem Reads.setCell (h : Reads w B size A n xs) {p : Addr} (hB : B ≤ p.block) (u : Value) : Reads (w.setCell p u) B size A n xs :=
  h.keep fun q hq => World.cell?_setCell_other w p q u (fun e => by subst e; omega)
theorem Reads.grown (h : Reads w B size A n xs) {row : Option Nat} (hg : w.grownBy w' row) (hB : B ≤ w.heap.size) (hr : ∀ g, row = some g → B ≤ g) : Reads w' B size A n xs :=
  h.keep fun p hp => World.cell?_of_block (hg.block p.block (by omega) (fun e => by have := hr _ e.symm; omega))
theorem Reads.cut (h : Reads w B size A n xs) {k cap : Nat} (hk : k ≤ n) (hc : n ≤ cap) :
    Reads w B size (if cap = k then A else A.map (·.add (k * size))) (n - k) (xs.drop (k * size)) := by
  refine ⟨by rw [List.length_drop, h.1, Nat.sub_mul], fun hn => ?_⟩
  obtain ⟨ad, rfl, hb, hcell⟩ := h.2 (by omega)
  rw [if_neg (by omega)]
  refine ⟨ad.add (k * size), rfl, by rw [block_of_add]; exact hb, fun j u hu => ?_⟩
  rw [add_of_add]
  exact hcell _ u (by rw [← hu, List.getElem?_drop])
theorem Reads.of_own {base : Nat} {e : TypeId} {c : Nat} (h : w.ownsRow base e size (.slice A n c) n xs) : Reads w w.heap.size size A n xs := by
  refine ⟨h.1, fun hn => ?_⟩
  obtain ⟨g, cap, hv, _, hlt⟩ := h.form hn
  have hA : A = some ⟨g, 0, none⟩ := by injection hv
  subst hA
  exact ⟨_, rfl, hlt, h.cells (g := g) rfl⟩
end
def Blk (w : World) (g : Nat) (t : TypeId) (cs : Array Value) : Prop := w.heap[g]? = some (.cells cs t (0, 0))

section
variable {w w' : World} {g : Nat} {t : TypeId} {cs : Array Value}
theorem Blk.lt (h : Blk w g t cs) : g < w.heap.size := by
  rcases Nat.lt_or_ge g w.heap.size with hlt | hge
  · exact hlt
  · unfold Blk at h; rw [Array.getElem?_eq_none hge] at h; cases h
theorem Blk.cell (h : Blk w g t cs) (i : Nat) : w.cell? ⟨g, i, none⟩ = cs[i]? := cell_of_row w g i cs t (0, 0) h
theorem Blk.frozen (h : Blk w g t cs) (i : Nat) : w.frozen? ⟨g, i, none⟩ = false := by
  unfold Blk at h
  simp [World.frozen?, h]
theorem Blk.new (w : World) (t : TypeId) (cs : Array Value) : Blk (w.alloc (.cells cs t)) w.heap.size t cs := heap_alloc_new w _
theorem Blk.drew (h : Blk w g t cs) : Blk w.drew g t cs := h
theorem Blk.drewN (h : Blk w g t cs) (n : Nat) : Blk (w.drewN n) g t cs := h
theorem Blk.alloc (h : Blk w g t cs) (o : Obj) : Blk (w.alloc o) g t cs := (Below.heap_alloc w o g h.lt).trans h
theorem Blk.set_ (h : Blk w g t cs) (i : Nat) (u : Value) : Blk (w.setCell ⟨g, i, none⟩ u) g t (cs.setIfInBounds i u) := by
  unfold Blk at h ⊢
  simp [World.setCell, Array.getElem?_modify, h]
theorem Blk.far (h : Blk w g t cs) {p : Addr} (hp : g ≠ p.block) (u : Value) : Blk (w.setCell p u) g t cs := (Below.heap_setCell w p u g hp).trans h
theorem Blk.below {B : Nat} (h : Blk w g t cs) (hb : Below B w w') (hg : g < B) : Blk w' g t cs := (hb.block g hg).trans h
theorem Blk.grown {row : Option Nat} (h : Blk w g t cs) (hb : w.grownBy w' row) (hg : some g ≠ row) : Blk w' g t cs := (hb.block g h.lt hg).trans h
theorem Blk.ne_ {g' : Nat} {t' : TypeId} {cs' : Array Value} (h : Blk w g t cs) (h' : Blk w g' t' cs') (hne : t ≠ t') : g ≠ g' := by
  rintro rfl
  unfold Blk at h h'
  rw [h] at h'
  injection h' with h'
  injection h' with _ ht
  exact hne ht
theorem own_blk_ne {base : Nat} {e : TypeId} {size n : Nat} {v : Value} {xs : List Value} (h : w.ownsRow base e size v n xs) (hg : Blk w g t cs) (hne : e ≠ t) : v.ownBlock ≠ some g := by
  rcases h.2 with ⟨rfl, _⟩ | ⟨g', cap, cur, rfl, _, hh, _⟩
  · simp [Value.ownBlock]
  · intro he
    have : g' = g := by simpa [Value.ownBlock] using he
    subst this
    exact Blk.ne_ (t := e) hh hg hne rfl
end
section
variable {P : Program} (w : World)

theorem run_append_of_nil (base : Nat) (t ty e : TypeId) (i : TypeInfo) (size : Nat) (ht : P.underlying t = some (.slice e)) (hi : P.info? e = some i)
    (v : Value) (n : Nat) (xs : List Value) (hown : w.ownsRow base e size v n xs) (c : Nat) : (Builtin.append_ #[t, t] ty #[v, .slice none 0 c]).run P w = .ok v w := by
  rcases hown.2 with ⟨rfl, rfl⟩ | ⟨g, cap, cur, rfl, _, _, hnc, _⟩
  · simp [Builtin.append_, run_underlying ht, sizeOf, typeInfo, hi, Builtin.lenOf, Builtin.firstCells]
  · simp [Builtin.append_, run_underlying ht, sizeOf, typeInfo, hi, Builtin.lenOf, Builtin.firstCells, hnc, storeCells]

theorem run_append_any (base : Nat) (t ty e : TypeId) (i : TypeInfo) (z : Value) (size bytes : Nat) (ht : P.underlying t = some (.slice e)) (hi : P.info? e = some i) (hz : i.zero = some z)
    (hsize : i.size = size) (hby : i.bytes = bytes) (hzs : z.cells.size = size) (hsz : 0 < size)
    (v : Value) (n : Nat) (xs : List Value) (hown : w.ownsRow base e size v n xs)
    (B : Nat) (A : Option Addr) (m c : Nat) (news : List Value) (hr : Reads w B size A m news) (h1 : ∀ u ∈ news, u.oneCell' = true)
    (h63 : n + m ≤ maxLen) (hbytes : (n + m) * bytes ≤ 140737488355328) (hbase : base ≤ w.heap.size) :
    ∃ v' w', (Builtin.append_ #[t, t] ty #[v, .slice A m c]).run P w = .ok v' w' ∧ w'.ownsRow base e size v' (n + m) (xs ++ news) ∧ w.grownBy w' v.ownBlock ∧
      (v'.ownBlock = v.ownBlock ∨ v'.ownBlock = some w.heap.size) := by
  rcases A with _ | ad
  · have hm : m = 0 := by
      rcases Nat.eq_zero_or_pos m with h0 | h0
      · exact h0
      · obtain ⟨ad, h, _⟩ := hr.2 h0
        cases h
    subst hm
    have hn : news = [] := List.eq_nil_of_length_eq_zero (by simpa using hr.1)
    subst hn
    exact ⟨v, w, run_append_of_nil w base t ty e i size ht hi v n xs hown c, by simpa using hown, World.grownBy.refl w _, .inl rfl⟩
  · have hcells : ∀ j u, news[j]? = some u → w.cell? (ad.add j) = some u := by
      intro j u hu
      rcases Nat.eq_zero_or_pos m with h0 | h0
      · subst h0
        have hn : news = [] := List.eq_nil_of_length_eq_zero (by simpa using hr.1)
        subst hn
        simp at hu
      · obtain ⟨ad', h, _, hc⟩ := hr.2 h0
        injection h with h
        subst h
        exact hc j u hu
    obtain ⟨v', w', hrun, h2, h3, _, h5⟩ := run_append_own_at (P := P) w base t ty e i z size bytes ht hi hz hsize hby hzs hsz v n xs hown ad m c news hr.1 hcells h1 h63 hbytes hbase
    exact ⟨v', w', hrun, h2, h3, h5⟩

theorem wp_append_any {o : Oper} {a : Act} {K : Act → World → Prop} {Q : Exit → Act → World → Prop} (s x : Operand) (t : TypeId)
    (ho : o.op = .call { callee := .builtin .append, args := #[s, x], argTypes := #[t, t] })
    (base : Nat) (e : TypeId) (i : TypeInfo) (z : Value) (size bytes : Nat) (ht : P.underlying t = some (.slice e)) (hi : P.info? e = some i) (hz : i.zero = some z)
    (hsize : i.size = size) (hby : i.bytes = bytes) (hzs : z.cells.size = size) (hsz : 0 < size)
    (v : Value) (n : Nat) (xs : List Value) (hs : a.eval s = v) (hown : w.ownsRow base e size v n xs)
    (B : Nat) (A : Option Addr) (m c : Nat) (news : List Value) (hx : a.eval x = .slice A m c) (hr : Reads w B size A m news) (h1 : ∀ u ∈ news, u.oneCell' = true)
    (h63 : n + m ≤ maxLen) (hbytes : (n + m) * bytes ≤ 140737488355328) (hbase : base ≤ w.heap.size)
    (h : ∀ v' w', w'.ownsRow base e size v' (n + m) (xs ++ news) → w.grownBy w' v.ownBlock → (v'.ownBlock = v.ownBlock ∨ v'.ownBlock = some w.heap.size) → K (a.put o.dst v') w') : o.wp P a w K Q := by
  obtain ⟨v', w', hrun, h2, h3, h4⟩ := run_append_any (P := P) w base t o.type e i z size bytes ht hi hz hsize hby hzs hsz v n xs hown B A m c news hr h1 h63 hbytes hbase
  unfold Oper.wp execOp
  simp only [ho, resolve, invoke, builtin, Sem.run_bind, Sem.run_pure, Result.andThen_ok, List.map_toArray, List.map_cons, List.map_nil, hs, hx, hrun]
  exact h v' w' h2 h3 h4

theorem wpList_append_any {ops : Array Oper} {rest : List Oper} {o : Oper} {a : Act} {Q : Exit → Act → World → Prop} (hgd : o.guard = none) (s x : Operand) (t : TypeId)
    (ho : o.op = .call { callee := .builtin .append, args := #[s, x], argTypes := #[t, t] })
    (base : Nat) (e : TypeId) (i : TypeInfo) (z : Value) (size bytes : Nat) (ht : P.underlying t = some (.slice e)) (hi : P.info? e = some i) (hz : i.zero = some z)
    (hsize : i.size = size) (hby : i.bytes = bytes) (hzs : z.cells.size = size) (hsz : 0 < size)
    (v : Value) (n : Nat) (xs : List Value) (hs : a.eval s = v) (hown : w.ownsRow base e size v n xs)
    (B : Nat) (A : Option Addr) (m c : Nat) (news : List Value) (hx : a.eval x = .slice A m c) (hr : Reads w B size A m news) (h1 : ∀ u ∈ news, u.oneCell' = true)
    (h63 : n + m ≤ maxLen) (hbytes : (n + m) * bytes ≤ 140737488355328) (hbase : base ≤ w.heap.size)
    (h : ∀ v' w', w'.ownsRow base e size v' (n + m) (xs ++ news) → w.grownBy w' v.ownBlock → (v'.ownBlock = v.ownBlock ∨ v'.ownBlock = some w.heap.size) → wpList P ops Q rest (a.put o.dst v') w') : wpList P ops Q (o :: rest) a w :=
  wpList_plain hgd fun _ hK => wp_append_any w s x t ho base e i z size bytes ht hi hz hsize hby hzs hsz v n xs hs hown B A m c news hx hr h1 h63 hbytes hbase fun v' w' h2 h3 h4 => hK _ _ (h v' w' h2 h3 h4)

theorem step_append_any {ops : Array Oper} {o : Oper} {a : Act} {K : Act → World → Prop} {Q : Exit → Act → World → Prop} {E : Prop} (hgd : o.guard = none) (s x : Operand) (t : TypeId)
    (ho : o.op = .call { callee := .builtin .append, args := #[s, x], argTypes := #[t, t] })
    (base : Nat) (e : TypeId) (i : TypeInfo) (z : Value) (size bytes : Nat) (ht : P.underlying t = some (.slice e)) (hi : P.info? e = some i) (hz : i.zero = some z)
    (hsize : i.size = size) (hby : i.bytes = bytes) (hzs : z.cells.size = size) (hsz : 0 < size)
    (v : Value) (n : Nat) (xs : List Value) (hs : a.eval s = v) (hown : w.ownsRow base e size v n xs)
    (B : Nat) (A : Option Addr) (m c : Nat) (news : List Value) (hx : a.eval x = .slice A m c) (hr : Reads w B size A m news) (h1 : ∀ u ∈ news, u.oneCell' = true)
    (h63 : n + m ≤ maxLen) (hbytes : (n + m) * bytes ≤ 140737488355328) (hbase : base ≤ w.heap.size)
    (h : ∀ v' w', w'.ownsRow base e size v' (n + m) (xs ++ news) → w.grownBy w' v.ownBlock → (v'.ownBlock = v.ownBlock ∨ v'.ownBlock = some w.heap.size) → K (a.put o.dst v') w') :
    if Region.wanted o (yielded ops a.tmps) = true then Oper.wp P o a w K Q else E := by
  have hw : Region.wanted o (yielded ops a.tmps) = true := by simp [Region.wanted, hgd]
  rw [if_pos hw]
  exact wp_append_any w s x t ho base e i z size bytes ht hi hz hsize hby hzs hsz v n xs hs hown B A m c news hx hr h1 h63 hbytes hbase h
end
theorem quiet_add {P : Program} {f : FuncId} {args : Array Value} {w : World} {a n : Nat} {v : Value}
    (h : Calls P f args (w.drewN (a + n)) fun e w' => e = .returned v ∧ ∃ m, w' = (w.drewN (a + n)).drewN m) :
    Calls P f args (w.drewN (a + n)) fun e w'' => e = .returned v ∧ ∃ m, w'' = w.drewN (a + m) :=
  h.mono fun _ _ ⟨he, m, hm⟩ => ⟨he, n + m, by rw [hm, World.drewN_drewN, Nat.add_assoc]⟩
theorem quiet_add_same {P : Program} {f : FuncId} {args : Array Value} {w : World} {a n : Nat} {v : Value}
    (h : Calls P f args (w.drewN (a + n)) fun e w' => e = .returned v ∧ w' = w.drewN (a + n)) :
    Calls P f args (w.drewN (a + n)) fun e w'' => e = .returned v ∧ ∃ m, w'' = w.drewN (a + m) :=
  h.mono fun _ _ ⟨he, hm⟩ => ⟨he, n, hm⟩
theorem quiet_add_left {P : Program} {f : FuncId} {args : Array Value} {w : World} {a n : Nat} {v : Value}
    (h : Calls P f args (w.drewN (a + n)) fun e w' => e = .returned v ∧ w.drewN (a + n) = w') :
    Calls P f args (w.drewN (a + n)) fun e w'' => e = .returned v ∧ ∃ m, w'' = w.drewN (a + m) :=
  h.mono fun _ _ ⟨he, hm⟩ => ⟨he, n, hm.symm⟩
theorem quiet_left {P : Program} {f : FuncId} {args : Array Value} {w : World} {n : Nat} {v : Value}
    (h : Calls P f args (w.drewN n) fun e w' => e = .returned v ∧ w.drewN n = w') : Calls P f args (w.drewN n) fun e w'' => e = .returned v ∧ ∃ m, w'' = w.drewN m :=
  h.mono fun _ _ ⟨he, hm⟩ => ⟨he, n, hm.symm⟩
theorem results_tmp4 {fn : Func} {t u v x : Tmp} (h : fn.results = #[.tmp t, .tmp u, .tmp v, .tmp x]) (tmps : Array Value) (P : Program) (w : World) :
    (results fn tmps).run P w = .ok (.tuple #[tmps.getD t undef, tmps.getD u undef, tmps.getD v undef, tmps.getD x undef]) w := by simp [results, h]
theorem results_tmp5 {fn : Func} {t u v x y : Tmp} (h : fn.results = #[.tmp t, .tmp u, .tmp v, .tmp x, .tmp y]) (tmps : Array Value) (P : Program) (w : World) :
    (results fn tmps).run P w = .ok (.tuple #[tmps.getD t undef, tmps.getD u undef, tmps.getD v undef, tmps.getD x undef, tmps.getD y undef]) w := by simp [results, h]
theorem below_drewN {B : Nat} {a w : World} (h : Below B a w) (n : Nat) : Below B a (w.drewN n) := ⟨h.os, h.tape, h.output, h.size, h.block⟩
theorem rowIs_drewN {w : World} {b : Nat} {t : TypeId} {n : Nat} {f : Nat → Value} (h : w.rowIs b t n f) (k : Nat) : (w.drewN k).rowIs b t n f := h
theorem grown_trans {a b c : World} (h : Grown a b) (k : Grown b c) : Grown a c :=
  ⟨World.keptBut_trans h.1 k.1, fun x => (k.2.1 x).trans (h.2.1 x), Nat.le_trans h.2.2 k.2.2⟩

theorem only_drewN {a w : World} {row : Option Nat} (h : a.grownBy w row) (n : Nat) : a.grownBy (w.drewN n) row := ⟨h.os, h.tape, h.output, h.size, h.block⟩
theorem only_drew {a w : World} {row : Option Nat} (h : a.grownBy w row) : a.grownBy w.drew row := ⟨h.os, h.tape, h.output, h.size, h.block⟩
theorem only_alloc {a w : World} {row : Option Nat} (h : a.grownBy w row) (o : Obj) : a.grownBy (w.alloc o) row :=
  ⟨h.os, h.tape, h.output, Nat.le_trans h.size (by simp), fun i hi hne => (Below.heap_alloc w o i (Nat.lt_of_lt_of_le hi h.size)).trans (h.block i hi hne)⟩
theorem only_setCell {a w : World} {g : Nat} (h : a.grownBy w (some g)) {p : Addr} (hp : p.block = g ∨ a.heap.size ≤ p.block) (u : Value) : a.grownBy (w.setCell p u) (some g) :=
  ⟨h.os, h.tape, h.output, by simpa [World.setCell] using h.size, fun i hi hne => (Below.heap_setCell w p u i (by
    rintro rfl
    rcases hp with hp | hp
    · exact hne (by rw [hp])
    · omega)).trans (h.block i hi hne)⟩
theorem only_of_below {a w : World} (h : Below a.heap.size a w) (row : Option Nat) : a.grownBy w row := ⟨h.os, h.tape, h.output, h.size, fun i hi _ => h.block i hi⟩
theorem run_make_rowN {P : Program} (t e : TypeId) (i : TypeInfo) (z : Value) (ht : P.underlying t = some (.slice e)) (hi : P.info? e = some i) (hz : i.zero = some z)
    (kl kc : IntKind) (n c : Nat) (hnc : n ≤ c) (hbytes : i.bytes * c ≤ 281474976710656) (h63 : c ≤ 9223372036854775807) (w : World) :
    (Instr.makeSlice t (.int kl (n : Int)) (.int kc (c : Int))).run P w = .ok (.slice (some ⟨w.heap.size, 0, none⟩) n c) (w.alloc (.cells (madeCells z.cells (c * i.size)) e)) := by
  have hb : (i.bytes : Int) * (c : Int) ≤ 281474976710656 := by
    have h : ((i.bytes * c : Nat) : Int) ≤ 281474976710656 := by omega
    rwa [Int.natCast_mul] at h
  have hr := run_make (P := P) w t e i z ht hi hz kl kc n c (by omega) (by omega) hb (by omega)
  simp only [Int.toNat_natCast] at hr
  exact hr
theorem run_makeMap_hint {P : Program} (t k e : TypeId) (kd : IntKind) (n : Int) (ht : P.underlying t = some (.map k e)) (w : World) :
    (Instr.makeMap t (some (.int kd n))).run P w = .ok (.map (some w.heap.size)) (w.alloc (.map #[] 0)) := by
  simp [Instr.makeMap, run_underlying ht]; rfl

/-- The call returned v, and nothing that was there has turned. -/
def RetV (v : Value) (w : World) (e : Ending) (w' : World) : Prop := e = .returned v ∧ Below w.heap.size w w'
theorem bcell {W w1 : World} (hb : Below W.heap.size W w1) : (∀ b o, b < W.heap.size → w1.cell? ⟨b, o, none⟩ = W.cell? ⟨b, o, none⟩) ∧ (∀ b o, b < W.heap.size → w1.frozen? ⟨b, o, none⟩ = W.frozen? ⟨b, o, none⟩) :=
  ⟨fun b o h => hb.cell (p := ⟨b, o, none⟩) h, fun b o h => hb.frozen (p := ⟨b, o, none⟩) h⟩

theorem _root_.Go.RowKit.Below.drewN' {B : Nat} {a w : World} (h : Below B a w) (n : Nat) : Below B a (w.drewN n) := below_drewN h n
theorem Reads.addr {w : World} {B n size : Nat} {A : Option Addr} {xs : List Value} (h : Reads w B size A n xs) (hn : 0 < n) (hs : 0 < size) :
    ∃ b off, A = some ⟨b, off, none⟩ ∧ b < B ∧ ∀ j u, xs[j]? = some u → w.cell? ⟨b, off + j, none⟩ = some u := by
  obtain ⟨ad, rfl, hb, hc⟩ := h.2 hn
  have hl : 0 < xs.length := by rw [h.1]; exact Nat.mul_pos hn hs
  have h0 := hc 0 _ (List.getElem?_eq_getElem hl)
  obtain ⟨b, off, spot⟩ := ad
  have hsp : spot = none := by simpa [Addr.add] using World.cell?_spot h0
  subst hsp
  refine ⟨b, off, rfl, hb, fun j u hu => ?_⟩
  have := hc j u hu
  unfold Addr.add at this
  split at this
  · rename_i h; subst h; simpa using this
  · simpa using this
def RetS (size n : Nat) (xs : List Value) (w : World) (e : Ending) (w' : World) : Prop :=
  ∃ A c, e = .returned (.slice A n c) ∧ Reads w' w'.heap.size size A n xs ∧ Below w.heap.size w w'
theorem RetS.of_own {w w' : World} {base e size n : Nat} {v : Value} {xs : List Value} (h : w'.ownsRow base e size v n xs) (hB : Below w.heap.size w w') : RetS size n xs w (.returned v) w' := by
  rcases h.2 with ⟨rfl, rfl⟩ | ⟨g, cap, cur, rfl, _⟩
  · exact ⟨_, _, rfl, Reads.of_own h, hB⟩
  · exact ⟨_, _, rfl, Reads.of_own h, hB⟩
/-- The facts on the blocks that a call lays at its beginning. -/
theorem lay1 (w : World) (x : Array Value) (t : TypeId) : Below w.heap.size w (w.alloc (.cells x t)) ∧ Blk (w.alloc (.cells x t)) w.heap.size t x :=
  ⟨(Below.refl _ _).alloc (Nat.le_refl _) _, Blk.new _ _ _⟩
theorem lay2 (w : World) (x y : Array Value) (t u : TypeId) : Below w.heap.size w ((w.alloc (.cells x t)).alloc (.cells y u)) ∧
    Blk ((w.alloc (.cells x t)).alloc (.cells y u)) w.heap.size t x ∧ Blk ((w.alloc (.cells x t)).alloc (.cells y u)) (w.heap.size + 1) u y :=
  ⟨((Below.refl _ _).alloc (Nat.le_refl _) _).alloc (by simp) _, (Blk.new _ _ _).alloc _, by simpa using Blk.new (w.alloc (.cells x t)) u y⟩
theorem lay3 (w : World) (x y z : Array Value) (t u v : TypeId) : Below w.heap.size w (((w.alloc (.cells x t)).alloc (.cells y u)).alloc (.cells z v)) ∧
    Blk (((w.alloc (.cells x t)).alloc (.cells y u)).alloc (.cells z v)) w.heap.size t x ∧ Blk (((w.alloc (.cells x t)).alloc (.cells y u)).alloc (.cells z v)) (w.heap.size + 1) u y ∧
    Blk (((w.alloc (.cells x t)).alloc (.cells y u)).alloc (.cells z v)) (w.heap.size + 1 + 1) v z := by
  obtain ⟨h1, h2, h3⟩ := lay2 w x y t u
  refine ⟨h1.alloc (by simp; omega) _, h2.alloc _, h3.alloc _, by simpa using Blk.new ((w.alloc (.cells x t)).alloc (.cells y u)) v z⟩
theorem _root_.Go.RowKit.Below.size' {B : Nat} {w w' : World} (h : Below B w w') : w.heap.size ≤ w'.heap.size := h.size
/-- append onto a slice of the call's own, out of a block that is known whole. -/
theorem app_own {P : Program} {ops : Array Oper} {rest : List Oper} {o : Oper} {a : Act} {Q : Exit → Act → World → Prop} {w : World} {t B e size bytes : Nat} {i : TypeInfo} {z v : Value} {n : Nat} {xs : List Value}
    (ht : P.underlying t = some (.slice e)) (hi : P.info? e = some i) (hz : i.zero = some z) (hsize : i.size = size) (hby : i.bytes = bytes) (hzs : z.cells.size = size) (hsz : 0 < size)
    (hown : w.ownsRow B e size v n xs) (hB : B ≤ w.heap.size) (hgd : o.guard = none) (s x : Operand)
    (ho : o.op = .call { callee := .builtin .append, args := #[s, x], argTypes := #[t, t] }) (hs : a.eval s = v)
    (g m c : Nat) (news : Array Value) (hx : a.eval x = .slice (some ⟨g, 0, none⟩) m c) (hb : Blk w g e news) (hl : news.size = m * size) (h1 : ∀ u ∈ news.toList, u.oneCell' = true)
    (h63 : n + m ≤ 1099511627776) (hbytes : (n + m) * bytes ≤ 140737488355328)
    (h : ∀ v' w', w'.ownsRow B e size v' (n + m) (xs ++ news.toList) → w.grownBy w' v.ownBlock → Below B w w' → (v'.ownBlock = v.ownBlock ∨ v'.ownBlock = some w.heap.size) → wpList P ops Q rest (a.put o.dst v') w') :
    wpList P ops Q (o :: rest) a w := by
  refine wpList_append_any w hgd s x t ho B e i z size bytes ht hi hz hsize hby hzs hsz v n xs hs hown (g + 1) (some ⟨g, 0, none⟩) m c news.toList hx ⟨by simpa using hl, fun _ => ⟨_, rfl, by simp, fun j u hu => ?_⟩⟩ h1 (by unfold maxLen; omega) hbytes hB ?_
  · have := hb.cell j
    have hadd : (⟨g, 0, none⟩ : Addr).add j = ⟨g, j, none⟩ := by unfold Addr.add; split <;> simp_all
    rw [hadd, this]; simpa using hu
  · intro v' w' hown' hg hat
    refine h v' w' hown' hg ?_ hat
    exact (Below.refl _ _).grown hg hB (fun k hk => (hown.lt k hk).1)
theorem step_app_own {P : Program} {ops : Array Oper} {o : Oper} {a : Act} {K : Act → World → Prop} {Q : Exit → Act → World → Prop} {E : Prop} {w : World} {t B e size bytes : Nat} {i : TypeInfo} {z v : Value} {n : Nat} {xs : List Value}
    (ht : P.underlying t = some (.slice e)) (hi : P.info? e = some i) (hz : i.zero = some z) (hsize : i.size = size) (hby : i.bytes = bytes) (hzs : z.cells.size = size) (hsz : 0 < size)
    (hown : w.ownsRow B e size v n xs) (hB : B ≤ w.heap.size) (hgd : o.guard = none) (s x : Operand)
    (ho : o.op = .call { callee := .builtin .append, args := #[s, x], argTypes := #[t, t] }) (hs : a.eval s = v)
    (g m c : Nat) (news : Array Value) (hx : a.eval x = .slice (some ⟨g, 0, none⟩) m c) (hb : Blk w g e news) (hl : news.size = m * size) (h1 : ∀ u ∈ news.toList, u.oneCell' = true)
    (h63 : n + m ≤ 1099511627776) (hbytes : (n + m) * bytes ≤ 140737488355328)
    (h : ∀ v' w', w'.ownsRow B e size v' (n + m) (xs ++ news.toList) → w.grownBy w' v.ownBlock → Below B w w' → (v'.ownBlock = v.ownBlock ∨ v'.ownBlock = some w.heap.size) → K (a.put o.dst v') w') :
    if Region.wanted o (yielded ops a.tmps) = true then Oper.wp P o a w K Q else E := by
  refine step_append_any w hgd s x t ho B e i z size bytes ht hi hz hsize hby hzs hsz v n xs hs hown (g + 1) (some ⟨g, 0, none⟩) m c news.toList hx ⟨by simpa using hl, fun _ => ⟨_, rfl, by simp, fun j u hu => ?_⟩⟩ h1 (by unfold maxLen; omega) hbytes hB ?_
  · have := hb.cell j
    have hadd : (⟨g, 0, none⟩ : Addr).add j = ⟨g, j, none⟩ := by unfold Addr.add; split <;> simp_all
    rw [hadd, this]; simpa using hu
  · intro v' w' hown' hg hat
    refine h v' w' hown' hg ?_ hat
    exact (Below.refl _ _).grown hg hB (fun k hk => (hown.lt k hk).1)
theorem _root_.Go.World.ownsRow.drewN {w : World} {base e size n : Nat} {v : Value} {xs : List Value} (h : w.ownsRow base e size v n xs) (k : Nat) : (w.drewN k).ownsRow base e size v n xs := h
theorem _root_.Go.World.ownsRow.drew' {w : World} {base e size n : Nat} {v : Value} {xs : List Value} (h : w.ownsRow base e size v n xs) : w.drew.ownsRow base e size v n xs := h
theorem _root_.Go.World.ownsRow.below {w w' : World} {base e size n : Nat} {v : Value} {xs : List Value} (h : w.ownsRow base e size v n xs) (hb : Below w.heap.size w w') : w'.ownsRow base e size v n xs := by
  refine ⟨h.1, ?_⟩
  rcases h.2 with hn | ⟨g, cap, cur, rfl, hb', hgg, rest⟩
  · exact .inl hn
  · refine .inr ⟨g, cap, cur, rfl, hb', ?_, rest⟩
    rw [hb.block g (Array.getElem?_eq_some_iff.1 hgg).1]
    exact hgg
/-- A two-step road: below B across a call that keeps all. -/
theorem _root_.Go.RowKit.Below.call {B : Nat} {a w w' : World} (h : Below B a w) (hB : B ≤ w.heap.size) (k : Below w.heap.size w w') : Below B a w' := h.trans (k.mono hB)
theorem Blk.call {w w' : World} {g : Nat} {t : TypeId} {cs : Array Value} (h : Blk w g t cs) (k : Below w.heap.size w w') : Blk w' g t cs := h.below k h.lt
theorem Reads.call {w w' : World} {size n : Nat} {A : Option Addr} {xs : List Value} (h : Reads w w.heap.size size A n xs) (k : Below w.heap.size w w') : Reads w' w'.heap.size size A n xs := (h.below k).more k.size

theorem ownsRow_pos {w : World} {base e size n : Nat} {v : Value} {xs : List Value} (h : w.ownsRow base e size v n xs) (hn : 0 < n) : ∃ g cap, v = .slice (some ⟨g, 0, none⟩) n cap ∧ base ≤ g ∧ g < w.heap.size := by
  rcases h.2 with ⟨rfl, rfl⟩ | ⟨g, cap, cur, rfl, hb, hg, _⟩
  · omega
  · exact ⟨g, cap, rfl, hb, (Array.getElem?_eq_some_iff.1 hg).1⟩

/-- All that lay when a region began reads as it did. -/
def SBel (wr w' : World) : Prop := wr.heap.size ≤ w'.heap.size ∧ ∀ b o, b < wr.heap.size → w'.cell? ⟨b, o, none⟩ = wr.cell? ⟨b, o, none⟩
theorem SBel.refl (wr : World) : SBel wr wr := ⟨Nat.le_refl _, fun _ _ _ => rfl⟩
theorem SBel.drew {wr : World} : SBel wr wr.drew := ⟨Nat.le_refl _, fun _ _ _ => rfl⟩
theorem SBel.alloc {wr w : World} (h : SBel wr w) (o : Obj) : SBel wr (w.alloc o) :=
  ⟨by have := h.1; simp; omega, fun b k hb => by rw [World.cell?_alloc_lt w o ⟨b, k, none⟩ (by have := h.1; simp; omega)]; exact h.2 b k hb⟩
theorem SBel.below {wr w w' : World} (h : SBel wr w) (k : Below w.heap.size w w') : SBel wr w' :=
  ⟨Nat.le_trans h.1 k.size, fun b o hb => (k.cell (p := ⟨b, o, none⟩) (by have := h.1; simp; omega)).trans (h.2 b o hb)⟩
theorem SBel.set {wr w : World} (h : SBel wr w) {p : Addr} (hp : wr.heap.size ≤ p.block) (v : Value) : SBel wr (w.setCell p v) :=
  ⟨by simpa [World.setCell] using h.1, fun b o hb => by rw [World.cell?_setCell_other w p ⟨b, o, none⟩ v (fun e => by subst e; simp at hp; omega)]; exact h.2 b o hb⟩
/-- All that lay below B when a region began reads as it did. -/
def SBl (B : Nat) (wr w' : World) : Prop := B ≤ w'.heap.size ∧ ∀ b o, b < B → w'.cell? ⟨b, o, none⟩ = wr.cell? ⟨b, o, none⟩
theorem SBl.drew {B : Nat} {wr : World} (h : B ≤ wr.heap.size) : SBl B wr wr.drew := ⟨h, fun _ _ _ => rfl⟩
theorem SBl.alloc {B : Nat} {wr w : World} (h : SBl B wr w) (o : Obj) : SBl B wr (w.alloc o) :=
  ⟨by have := h.1; simp; omega, fun b k hb => by rw [World.cell?_alloc_lt w o ⟨b, k, none⟩ (by have := h.1; simp; omega)]; exact h.2 b k hb⟩
theorem SBl.below {B C : Nat} {wr w w' : World} (h : SBl B wr w) (k : Below C w w') (hC : B ≤ C) : SBl B wr w' :=
  ⟨Nat.le_trans h.1 k.size, fun b o hb => (k.cell (p := ⟨b, o, none⟩) (by simp; omega)).trans (h.2 b o hb)⟩
theorem SBl.call {B : Nat} {wr w w' : World} (h : SBl B wr w) (k : Below w.heap.size w w') : SBl B wr w' := h.below k h.1
theorem SBl.set {B : Nat} {wr w : World} (h : SBl B wr w) {p : Addr} (hp : B ≤ p.block) (v : Value) : SBl B wr (w.setCell p v) :=
  ⟨by simpa [World.setCell] using h.1, fun b o hb => by rw [World.cell?_setCell_other w p ⟨b, o, none⟩ v (fun e => by subst e; simp at hp; omega)]; exact h.2 b o hb⟩
/-- A call, then a new block: what lay lies. -/
theorem call_box {wr w1 : World} (hb : Below wr.drew.heap.size wr.drew w1) (cs : Array Value) (t : TypeId) :
    Below wr.heap.size wr (w1.alloc (.cells cs t)) ∧ Blk (w1.alloc (.cells cs t)) w1.heap.size t cs :=
  ⟨((Below.refl _ wr).drew.trans hb).alloc hb.size _, Blk.new _ _ _⟩
/-- A new block, a call, then the block's two cells are filled. -/
theorem box_call2 {wr w1 : World} {z : Array Value} {t : TypeId} (hb : Below (wr.drew.alloc (.cells z t)).heap.size (wr.drew.alloc (.cells z t)) w1) (hz : z.size = 2) (u v : Value) :
    Below wr.heap.size wr ((w1.setCell ⟨wr.heap.size, 0, none⟩ u).setCell ⟨wr.heap.size, 1, none⟩ v) ∧ Blk ((w1.setCell ⟨wr.heap.size, 0, none⟩ u).setCell ⟨wr.heap.size, 1, none⟩ v) wr.heap.size t #[u, v] := by
  have hb' : Below wr.heap.size wr w1 := ((Below.refl _ wr).drew.alloc (Nat.le_refl _) _).trans (hb.mono (by simp))
  refine ⟨(hb'.setCell (Nat.le_refl _) _).setCell (Nat.le_refl _) _, ?_⟩
  have h0 : Blk (wr.drew.alloc (.cells z t)) wr.heap.size t z := Blk.new wr.drew t z
  have h1 := ((h0.below hb h0.lt).set_ 0 u).set_ 1 v
  have e : (z.setIfInBounds 0 u).setIfInBounds 1 v = #[u, v] := by
    obtain ⟨l⟩ := z
    match l, hz with
    | [x, y], _ => rfl
  rwa [e] at h1
/-- A block of two cells is filled. -/
theorem fill2 {wr w2 : World} {z : Array Value} {t g : Nat} (hb : Below wr.heap.size wr w2) (bz : Blk w2 g t z) (hz : z.size = 2) (hg : wr.heap.size ≤ g) (u v : Value) :
    Below wr.heap.size wr ((w2.setCell ⟨g, 0, none⟩ u).setCell ⟨g, 1, none⟩ v) ∧ Blk ((w2.setCell ⟨g, 0, none⟩ u).setCell ⟨g, 1, none⟩ v) g t #[u, v] := by
  refine ⟨(hb.setCell hg _).setCell hg _, ?_⟩
  have h1 := (bz.set_ 0 u).set_ 1 v
  have e : (z.setIfInBounds 0 u).setIfInBounds 1 v = #[u, v] := by
    obtain ⟨l⟩ := z
    match l, hz with
    | [x, y], _ => rfl
  rwa [e] at h1
/-- after_call2: both together, as the walk leaves them. -/
theorem _root_.Go.World.ownsRow.keep {w w' : World} {base e size n B : Nat} {v : Value} {xs : List Value} (h : w.ownsRow base e size v n xs) (hb : Below B w w') (hB : w.heap.size ≤ B) : w'.ownsRow base e size v n xs := h.below (hb.mono hB)
theorem Reads.alloc' {w : World} {size n : Nat} {A : Option Addr} {xs : List Value} (h : Reads w w.heap.size size A n xs) (o : Obj) : Reads (w.alloc o) (w.alloc o).heap.size size A n xs := (h.alloc (Nat.le_refl _) o).more (by simp)
theorem Reads.up {w w' : World} {B size n : Nat} {A : Option Addr} {xs : List Value} (h : Reads w B size A n xs) (k : Below B w w') (hB : B ≤ w'.heap.size) : Reads w' w'.heap.size size A n xs := (h.below k).more hB

/-! A slice of the call's own that begins anywhere in its block (a queue that is cut at its head). -/
def ownsOff (w : World) (B : Nat) (e : TypeId) (size : Nat) (v : Value) (n : Nat) (xs : List Value) : Prop :=
  xs.length = n * size ∧ ∃ g o cap cur, v = .slice (some ⟨g, o, none⟩) n cap ∧ B ≤ g ∧ w.heap[g]? = some (.cells cur e (0, 0)) ∧ n ≤ cap ∧ cap ≤ maxLen ∧ o + cap * size ≤ cur.size ∧ (cur.toList.drop o).take (n * size) = xs
theorem ownsOff.of_own {w : World} {B e size n : Nat} {v : Value} {xs : List Value} (h : w.ownsRow B e size v n xs) (hn : 0 < n) : ownsOff w B e size v n xs := by
  rcases h.2 with ⟨rfl, rfl⟩ | ⟨g, cap, cur, rfl, hb, hg, hc, hm, hs, ht⟩
  · omega
  · exact ⟨h.1, g, 0, cap, cur, rfl, hb, hg, hc, hm, by omega, by simpa using ht⟩
theorem ownsOff.keep {w w' : World} {B e size n : Nat} {v : Value} {xs : List Value} (h : ownsOff w B e size v n xs) (hk : ∀ g cur t, v.ownBlock = some g → w.heap[g]? = some (.cells cur t (0, 0)) → w'.heap[g]? = some (.cells cur t (0, 0))) : ownsOff w' B e size v n xs := by
  obtain ⟨h1, g, o, cap, cur, rfl, hb, hg, rest⟩ := h
  exact ⟨h1, g, o, cap, cur, rfl, hb, hk g cur e rfl hg, rest⟩
theorem ownsOff.lt {w : World} {B e size n : Nat} {v : Value} {xs : List Value} (h : ownsOff w B e size v n xs) : ∃ g, v.ownBlock = some g ∧ B ≤ g ∧ g < w.heap.size := by
  obtain ⟨h1, g, o, cap, cur, rfl, hb, hg, rest⟩ := h
  exact ⟨g, rfl, hb, (Array.getElem?_eq_some_iff.1 hg).1⟩
theorem ownsOff.below {w w' : World} {B e size n : Nat} {v : Value} {xs : List Value} (h : ownsOff w B e size v n xs) (hb : Below w.heap.size w w') : ownsOff w' B e size v n xs := by
  obtain ⟨g', e', _, hlt⟩ := h.lt
  exact h.keep fun g cur t hg hh => by rw [e'] at hg; injection hg with hg; subst hg; rw [hb.block _ hlt]; exact hh
theorem ownsOff.alloc {w : World} {B e size n : Nat} {v : Value} {xs : List Value} (h : ownsOff w B e size v n xs) (o : Obj) : ownsOff (w.alloc o) B e size v n xs := h.below ((Below.refl _ _).alloc (Nat.le_refl _) _)
theorem ownsOff.drewN {w : World} {B e size n : Nat} {v : Value} {xs : List Value} (h : ownsOff w B e size v n xs) (k : Nat) : ownsOff (w.drewN k) B e size v n xs := h
theorem ownsOff.form {w : World} {B e size n : Nat} {v : Value} {xs : List Value} (h : ownsOff w B e size v n xs) : ∃ g o cap, v = .slice (some ⟨g, o, none⟩) n cap ∧ B ≤ g ∧ g < w.heap.size ∧ n ≤ cap ∧ cap ≤ maxLen ∧ ∀ j, j < n * size → w.cell? ⟨g, o + j, none⟩ = xs[j]? := by
  obtain ⟨h1, g, o, cap, cur, rfl, hb, hg, hc, hm, hs, ht⟩ := h
  refine ⟨g, o, cap, rfl, hb, (Array.getElem?_eq_some_iff.1 hg).1, hc, hm, fun j hj => ?_⟩
  rw [cell_of_row w g (o + j) cur e (0, 0) hg, ← ht, List.getElem?_take, if_pos hj, List.getElem?_drop]
  simp
theorem ownsOff.tail {w : World} {B e size n g o cap : Nat} {xs : List Value} (h : ownsOff w B e size (.slice (some ⟨g, o, none⟩) (n + 1) cap) (n + 1) xs) :
    ownsOff w B e size (.slice (some (if cap = 1 then ⟨g, o, none⟩ else ⟨g, o + size, none⟩)) n (cap - 1)) n (xs.drop size) := by
  obtain ⟨h1, g', o', cap', cur, e', hb, hg, hc, hm, hs, ht⟩ := h
  injection e' with e1 e2 e3
  injection e1 with e1
  injection e1 with e4 e5
  subst e3 e4 e5
  refine ⟨by rw [List.length_drop, h1, Nat.succ_mul]; omega, ?_⟩
  by_cases h0 : cap = 1
  · subst h0
    obtain rfl : n = 0 := by omega
    refine ⟨g, o, 0, cur, by simp, hb, hg, by omega, by omega, by omega, ?_⟩
    have hxs : xs.length = size := by rw [h1]; simp
    rw [List.drop_eq_nil_of_le (Nat.le_of_eq hxs), Nat.zero_mul, List.take_zero]
  · rw [if_neg h0]
    obtain ⟨d, rfl⟩ : ∃ d, cap = d + 1 := ⟨cap - 1, by omega⟩
    refine ⟨g, o + size, d, cur, by simp, hb, hg, by omega, by omega, by rw [Nat.succ_mul] at hs; omega, ?_⟩
    rw [← ht, List.drop_take, List.drop_drop, Nat.succ_mul, Nat.add_sub_cancel]
theorem app_off {P : Program} {w : World} {t B e size bytes : Nat} {i : TypeInfo} {z v : Value} {n : Nat} {xs : List Value}
    (ht : P.underlying t = some (.slice e)) (hi : P.info? e = some i) (hz : i.zero = some z) (hsize : i.size = size) (hby : i.bytes = bytes) (hzs : z.cells.size = size) (hsz : 0 < size)
    (hown : ownsOff w B e size v n xs) (hB : B ≤ w.heap.size)
    (g m c : Nat) (news : Array Value) (hb : Blk w g e news) (hl : news.size = m * size) (h1 : ∀ u ∈ news.toList, u.oneCell' = true) (hm : 0 < m)
    (h63 : n + m ≤ 1099511627776) (hbytes : (n + m) * bytes ≤ 140737488355328) (ty : TypeId) :
    ∃ v' w', (Builtin.append_ #[t, t] ty #[v, .slice (some ⟨g, 0, none⟩) m c]).run P w = .ok v' w' ∧ ownsOff w' B e size v' (n + m) (xs ++ news.toList) ∧ w.grownBy w' v.ownBlock ∧ Below B w w' := by
  have hnews : ∀ j u, news.toList[j]? = some u → w.cell? ((⟨g, 0, none⟩ : Addr).add j) = some u := by
    intro j u hu
    have := hb.cell j
    have hadd : (⟨g, 0, none⟩ : Addr).add j = ⟨g, j, none⟩ := by unfold Addr.add; split <;> simp_all
    rw [hadd, this]; simpa using hu
  obtain ⟨hxl, gq, oq, cap, cur, rfl, hbq, hgq, hnc, hcm, hcs, htk⟩ := hown
  by_cases hroom : n + m ≤ cap
  · subst hsize
    have hfit : oq + n * i.size + news.toList.length ≤ cur.size := by
      rw [Array.length_toList, hl]
      have := Nat.mul_le_mul_right i.size hroom
      rw [Nat.add_mul] at this
      omega
    have hf := run_firstCells_some (P := P) w i.size m ⟨g, 0, none⟩ m c news.toList (by rw [Array.length_toList]; exact hl) hnews
    have hst := run_storeCells_at P gq (oq + n * i.size) e news.toList 0 cur w hgq (by simpa using hfit) h1
    have hadd : (⟨gq, oq, none⟩ : Addr).add (n * i.size) = ⟨gq, oq + n * i.size, none⟩ := by unfold Addr.add; split <;> simp_all
    simp only [Nat.add_zero] at hst
    refine ⟨.slice (some ⟨gq, oq, none⟩) (n + m) cap, w.setRow gq (cur.toList.take (oq + n * i.size) ++ news.toList ++ cur.toList.drop (oq + n * i.size + news.toList.length)).toArray, ?_, ?_, ?_, ?_⟩
    · simp [Builtin.append_, run_underlying ht, sizeOf, typeInfo, hi, Builtin.lenOf, hroom, hf, hadd, hst]
    · refine ⟨by rw [List.length_append, hxl, Array.length_toList, hl, Nat.add_mul], gq, oq, cap, _, rfl, hbq, setRow_heap w gq cur _ e _ hgq, hroom, hcm, ?_, ?_⟩
      · simp only [List.size_toArray, List.length_append, List.length_take, List.length_drop, Array.length_toList] at *
        omega
      · have hlen : (cur.toList.take (oq + n * i.size)).length = oq + n * i.size := by
          rw [List.length_take, Array.length_toList]
          simp only [Array.length_toList] at hfit
          omega
        have e1 : (cur.toList.take (oq + n * i.size)).drop oq = xs := by
          rw [List.drop_take, Nat.add_sub_cancel_left]; exact htk
        rw [List.append_assoc, List.drop_append_of_le_length (by rw [hlen]; omega), e1, ← List.append_assoc]
        rw [show (n + m) * i.size = (xs ++ news.toList).length from by rw [List.length_append, hxl, Array.length_toList, hl, Nat.add_mul]]
        exact List.take_left
    · exact ⟨rfl, rfl, rfl, by simp, fun k _ hk => setRow_other w gq k _ (fun e => hk (by simp [Value.ownBlock, e]))⟩
    · exact ⟨rfl, rfl, rfl, by simp, fun k hk => setRow_other w gq k _ (by omega)⟩
  · have holds : ∀ j u, xs[j]? = some u → w.cell? ((⟨gq, oq, none⟩ : Addr).add j) = some u := by
      intro j u hu
      have hadd : (⟨gq, oq, none⟩ : Addr).add j = ⟨gq, oq + j, none⟩ := by unfold Addr.add; split <;> simp_all
      rw [hadd, cell_of_row w gq (oq + j) cur e (0, 0) hgq]
      rw [← htk, List.getElem?_take] at hu
      split at hu
      · rw [List.getElem?_drop] at hu; simpa using hu
      · cases hu
    obtain ⟨v', w', hr, ho, hgr⟩ := run_append_arg_grows (P := P) w t ty e i z size bytes ht hi hz hsize hby hzs hsz ⟨gq, oq, none⟩ n cap xs hxl holds ⟨g, 0, none⟩ m c news.toList (by rw [Array.length_toList]; exact hl) hnews (by omega) (by unfold maxLen; omega) hbytes
    have ho2 := ownsOff.of_own ho (by omega)
    refine ⟨v', w', hr, ?_, ⟨hgr.os, hgr.tape, hgr.output, hgr.size, fun k hk _ => hgr.block k hk (by simp)⟩, (Below.refl _ _).grown hgr hB (fun k hk => by cases hk)⟩
    obtain ⟨q1, q2, q3, q4, q5, q6, q7, q8⟩ := ho2
    exact ⟨q1, q2, q3, q4, q5, q6, by omega, q8⟩

end Go.Proofs.YtaakhhnlmldegaaDoor
